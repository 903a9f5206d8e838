/- The walk of the law FnExactBuriedBy: it returns true. -/
import Derived.Test.YtdpepdcbgocbcaaBuried
import Derived.Test.YtdpepdcbgocbcaaMarkGrid
import Derived.Test.YtdpepdcbgocbcaaMarkAsset
import Derived.Deep.RegionHeld3
namespace Go.Proofs.Ytdpepdcbgocbcaa
open Go.RowKit

set_option maxRecDepth 100000 in
set_option maxHeartbeats 1000000 in
theorem walk_FnExactBuriedBy (m0 : GridR) (A1 : Option Addr) (n1 c1 : Nat) (p1 : List AssetR) (A2 : Option Addr) (n2 c2 : Nat) (x2 : List Int) (w : World) (mi0 : m0.In w) (mg0 : m0.val.Good) (s1 : SliceOf w 3 AssetR.cells A1 n1 p1) (g1 : ∀ x ∈ p1, x.In w ∧ x.val.Good) (s2 : SliceOf w 1 i64cells A2 n2 x2) (_g2 : ∀ x ∈ x2, I64 x) : Calls Try.prog 7 #[.agg #[.int .i64 m0.rows, .int .i64 m0.columns, .int .i64 m0.size, .slice m0.heightsA m0.heightsN m0.heightsC], .slice A1 n1 c1, .slice A2 n2 c2] w (Ret (.bool true) w) := by
  obtain ⟨x1, hx1⟩ : ∃ x, p1.map AssetR.val = x := ⟨_, rfl⟩
  have e1 := Asset.eqSB_self x1
  have ln1 := s1.le
  have hl1 := Lib.hid s1.len
  have S1 : Asset.Sl w A1 n1 x1 := ⟨p1, s1, fun p hp => (g1 p hp).1, hx1.symm⟩
  have Hx1 := Lib.hid hx1
  clear hx1
  have G1 := Lib.hid g1
  have GG1 : Hid (∀ x ∈ x1, x.Good) := fun x hx => by
    rw [← Hx1.out] at hx
    obtain ⟨p, hp, rfl⟩ := List.mem_map.1 hx
    exact (G1.out p hp).2
  clear g1
  have e2 := Int64.eqSB_self x2
  have ln2 := s2.le
  have hl2 := Lib.hid s2.len
  by_cases L2 : 1048576 < n2
  · go_enter Try.func7, Try.ntmps7
    go_wp2
    go_ret
    exact Ret.b rfl (by first | exact Below.refl _ _ | exact (Below.refl _ _).alloc (Nat.le_refl _) _)
  have hBx : Below w.heap.size w (w.alloc (.cells #[.int .i64 m0.rows, .int .i64 m0.columns, .int .i64 m0.size, .slice m0.heightsA m0.heightsN m0.heightsC] 53)) := (Below.refl _ _).alloc (Nat.le_refl _) _
  have HOb := Lib.hid (Own.new w 53 #[.int .i64 m0.rows, .int .i64 m0.columns, .int .i64 m0.size, .slice m0.heightsA m0.heightsN m0.heightsC])
  have MI := Lib.hid mi0
  have MG := Lib.hid mg0
  have ln0 := mi0.1.le
  have hl0 := Lib.hid mi0.1.len
  clear mi0 mg0
  go_enter Try.func7, Try.ntmps7
  go_wp2_with fail
  refine (szGrid_any m0 _ _ (MI.out.below hBx) MG.out (by omega) (by omega)).mono ?_
  rintro e w1 ⟨v, rfl, ⟨r1, rfl, q1⟩, b1⟩
  have t1 : Below w.heap.size w w1 := hBx.trans (b1.mono hBx.size)
  have tb1 : Below (w.alloc (.cells #[.int .i64 m0.rows, .int .i64 m0.columns, .int .i64 m0.size, .slice m0.heightsA m0.heightsN m0.heightsC] 53)).heap.size (w.alloc (.cells #[.int .i64 m0.rows, .int .i64 m0.columns, .int .i64 m0.size, .slice m0.heightsA m0.heightsN m0.heightsC] 53)) w1 := (Below.refl (w.alloc (.cells #[.int .i64 m0.rows, .int .i64 m0.columns, .int .i64 m0.size, .slice m0.heightsA m0.heightsN m0.heightsC] 53)).heap.size (w.alloc (.cells #[.int .i64 m0.rows, .int .i64 m0.columns, .int .i64 m0.size, .slice m0.heightsA m0.heightsN m0.heightsC] 53))).trans (b1.mono (Below.refl (w.alloc (.cells #[.int .i64 m0.rows, .int .i64 m0.columns, .int .i64 m0.size, .slice m0.heightsA m0.heightsN m0.heightsC] 53)).heap.size (w.alloc (.cells #[.int .i64 m0.rows, .int .i64 m0.columns, .int .i64 m0.size, .slice m0.heightsA m0.heightsN m0.heightsC] 53))).size)
  have z1 : Hid (w.heap.size ≤ w1.heap.size) := t1.size
  have Q1 := Lib.hid q1
  have r1c : r1 < 0 ∨ 0 ≤ r1 ∧ r1 ≤ 1048576 ∧ (m0.heightsN : Int) ≤ 1048576 := by rcases q1 with h | h <;> omega
  clear q1
  by_cases y1 : r1 < 0
  · go_wp2
    go_ret
    exact Ret.b rfl t1
  have l1 : m0.heightsN ≤ 1048576 := by omega
  go_wp2_with fail
  refine (szAssetS_any _ _ _ p1 _ _ (s1.below t1) (fun p hp => (G1.out p hp).1.below t1) (fun p hp => (G1.out p hp).2) (by omega) (by omega)).mono ?_
  rintro e w2 ⟨v, rfl, ⟨r2, rfl, q2⟩, b2⟩
  have t2 : Below w.heap.size w w2 := t1.trans (b2.mono t1.size)
  have tb2 : Below (w.alloc (.cells #[.int .i64 m0.rows, .int .i64 m0.columns, .int .i64 m0.size, .slice m0.heightsA m0.heightsN m0.heightsC] 53)).heap.size (w.alloc (.cells #[.int .i64 m0.rows, .int .i64 m0.columns, .int .i64 m0.size, .slice m0.heightsA m0.heightsN m0.heightsC] 53)) w2 := tb1.trans (b2.mono tb1.size)
  have z2 : Hid (w1.heap.size ≤ w2.heap.size) := b2.size
  have Q2 := Lib.hid q2
  have r2c : r2 < 0 ∨ 0 ≤ r2 ∧ r2 ≤ r1 ∧ (n1 : Int) ≤ 1048576 := by rcases q2 with h | h <;> omega
  clear q2
  by_cases y2 : r2 < 0
  · go_wp2
    go_ret
    exact Ret.b rfl t2
  have l2 : n1 ≤ 1048576 := by omega
  have inn1 : Hid (∀ x ∈ x1, x.spots.length ≤ 1048576) := fun x hx => by
    rw [← Hx1.out] at hx
    obtain ⟨p, hp, rfl⟩ := List.mem_map.1 hx
    have h := (Q2.out.resolve_left y2).2.2.2 p hp
    rw [← (G1.out p hp).1.1.len] at h
    exact h
  have fa0 : w2.cell? ⟨w.heap.size, 0, none⟩ = some (.int .i64 m0.rows) := (tb2.cell (p := ⟨w.heap.size, 0, none⟩) (by simp)).trans (HOb.out.cell 0)
  have fa1 : w2.cell? ⟨w.heap.size, 1, none⟩ = some (.int .i64 m0.columns) := (tb2.cell (p := ⟨w.heap.size, 1, none⟩) (by simp)).trans (HOb.out.cell 1)
  have fa2 : w2.cell? ⟨w.heap.size, 2, none⟩ = some (.int .i64 m0.size) := (tb2.cell (p := ⟨w.heap.size, 2, none⟩) (by simp)).trans (HOb.out.cell 2)
  have fa3 : w2.cell? ⟨w.heap.size, 3, none⟩ = some (.slice m0.heightsA m0.heightsN m0.heightsC) := (tb2.cell (p := ⟨w.heap.size, 3, none⟩) (by simp)).trans (HOb.out.cell 3)
  go_wp2_with fail
  clear fa0 fa1 fa2 fa3
  refine (toGrid_any m0 _ (MI.out.below t2) l1).mono ?_
  rintro e w3 ⟨p3, rfl, hv3, o3, b3⟩
  have t3 : Below w.heap.size w w3 := t2.trans (b3.mono t2.size)
  have tb3 : Below (w.alloc (.cells #[.int .i64 m0.rows, .int .i64 m0.columns, .int .i64 m0.size, .slice m0.heightsA m0.heightsN m0.heightsC] 53)).heap.size (w.alloc (.cells #[.int .i64 m0.rows, .int .i64 m0.columns, .int .i64 m0.size, .slice m0.heightsA m0.heightsN m0.heightsC] 53)) w3 := tb2.trans (b3.mono tb2.size)
  have z3 : Hid (w2.heap.size ≤ w3.heap.size) := b3.size
  have HV3 := Lib.hid hv3
  clear hv3
  have lo3 := Lib.hid o3.lt
  go_wp2_with fail
  refine (toAssetS_any _ _ _ x1 _ (S1.below t3) l2 inn1.out).mono ?_
  rintro e w4 ⟨v4, rfl, o4, b4⟩
  have t4 : Below w.heap.size w w4 := t3.trans (b4.mono t3.size)
  have tb4 : Below (w.alloc (.cells #[.int .i64 m0.rows, .int .i64 m0.columns, .int .i64 m0.size, .slice m0.heightsA m0.heightsN m0.heightsC] 53)).heap.size (w.alloc (.cells #[.int .i64 m0.rows, .int .i64 m0.columns, .int .i64 m0.size, .slice m0.heightsA m0.heightsN m0.heightsC] 53)) w4 := tb3.trans (b4.mono tb3.size)
  have z4 : Hid (w3.heap.size ≤ w4.heap.size) := b4.size
  have o3_4 := o3.below' b4
  obtain ⟨A_4, c_4, rfl, hc4, hm4, u4⟩ := o4.slice
  clear u4
  go_wp2_with fail
  refine (toInt64S_any _ _ _ _ _ (s2.below t4) (by omega)).mono ?_
  rintro e w5 ⟨v5, rfl, o5, b5⟩
  have t5 : Below w.heap.size w w5 := t4.trans (b5.mono t4.size)
  have tb5 : Below (w.alloc (.cells #[.int .i64 m0.rows, .int .i64 m0.columns, .int .i64 m0.size, .slice m0.heightsA m0.heightsN m0.heightsC] 53)).heap.size (w.alloc (.cells #[.int .i64 m0.rows, .int .i64 m0.columns, .int .i64 m0.size, .slice m0.heightsA m0.heightsN m0.heightsC] 53)) w5 := tb4.trans (b5.mono tb4.size)
  have z5 : Hid (w4.heap.size ≤ w5.heap.size) := b5.size
  have o3_5 := o3_4.below' b5
  have o4_5 := o4.below' b5
  have lo5 := Lib.hid o5.lt
  obtain ⟨A_5, c_5, rfl, hc5, hm5, u5⟩ := o5.slice i64cells_len
  clear u5
  go_wp2_with fail
  refine (specBuriedBy_any p3 _ _ _ x1 _ _ _ x2 _ (GridR.in_of o3_5) o4_5.sl GG1.out (o5.sl i64cells_len)).mono ?_
  rintro e w6 ⟨v6, he, o6, b6⟩
  try rw [HV3.out] at he
  rw [HV3.out] at o6
  subst he
  have t6 : Below w.heap.size w w6 := t5.trans (b6.mono t5.size)
  have tb6 : Below (w.alloc (.cells #[.int .i64 m0.rows, .int .i64 m0.columns, .int .i64 m0.size, .slice m0.heightsA m0.heightsN m0.heightsC] 53)).heap.size (w.alloc (.cells #[.int .i64 m0.rows, .int .i64 m0.columns, .int .i64 m0.size, .slice m0.heightsA m0.heightsN m0.heightsC] 53)) w6 := tb5.trans (b6.mono tb5.size)
  have z6 : Hid (w5.heap.size ≤ w6.heap.size) := b6.size
  have o3_6 := o3_5.below' b6
  have o4_6 := o4_5.below' b6
  have o5_6 := o5.below' b6
  have lo6 := Lib.hid o6.lt
  have fa0 : w6.cell? ⟨w.heap.size, 0, none⟩ = some (.int .i64 m0.rows) := (tb6.cell (p := ⟨w.heap.size, 0, none⟩) (by simp)).trans (HOb.out.cell 0)
  have fa1 : w6.cell? ⟨w.heap.size, 1, none⟩ = some (.int .i64 m0.columns) := (tb6.cell (p := ⟨w.heap.size, 1, none⟩) (by simp)).trans (HOb.out.cell 1)
  have fa2 : w6.cell? ⟨w.heap.size, 2, none⟩ = some (.int .i64 m0.size) := (tb6.cell (p := ⟨w.heap.size, 2, none⟩) (by simp)).trans (HOb.out.cell 2)
  have fa3 : w6.cell? ⟨w.heap.size, 3, none⟩ = some (.slice m0.heightsA m0.heightsN m0.heightsC) := (tb6.cell (p := ⟨w.heap.size, 3, none⟩) (by simp)).trans (HOb.out.cell 3)
  go_wp2_with fail
  clear fa0 fa1 fa2 fa3
  refine (toGrid_any m0 _ (MI.out.below t6) l1).mono ?_
  rintro e w7 ⟨p7, rfl, hv7, o7, b7⟩
  have t7 : Below w.heap.size w w7 := t6.trans (b7.mono t6.size)
  have tb7 : Below (w.alloc (.cells #[.int .i64 m0.rows, .int .i64 m0.columns, .int .i64 m0.size, .slice m0.heightsA m0.heightsN m0.heightsC] 53)).heap.size (w.alloc (.cells #[.int .i64 m0.rows, .int .i64 m0.columns, .int .i64 m0.size, .slice m0.heightsA m0.heightsN m0.heightsC] 53)) w7 := tb6.trans (b7.mono tb6.size)
  have z7 : Hid (w6.heap.size ≤ w7.heap.size) := b7.size
  have o6_7 := o6.below' b7
  have HV7 := Lib.hid hv7
  clear hv7
  have lo7 := Lib.hid o7.lt
  have bX : Below w7.heap.size w7 (w7.alloc (.cells #[.int .i64 p7.rows, .int .i64 p7.columns, .int .i64 p7.size, .slice p7.heightsA p7.heightsN p7.heightsC] 57)) := (Below.refl _ _).alloc (Nat.le_refl _) _
  have HOx := Lib.hid (Own.new w7 57 #[.int .i64 p7.rows, .int .i64 p7.columns, .int .i64 p7.size, .slice p7.heightsA p7.heightsN p7.heightsC])
  have tX : Below w.heap.size w (w7.alloc (.cells #[.int .i64 p7.rows, .int .i64 p7.columns, .int .i64 p7.size, .slice p7.heightsA p7.heightsN p7.heightsC] 57)) := t7.trans (bX.mono t7.size)
  have tbX : Below (w.alloc (.cells #[.int .i64 m0.rows, .int .i64 m0.columns, .int .i64 m0.size, .slice m0.heightsA m0.heightsN m0.heightsC] 53)).heap.size (w.alloc (.cells #[.int .i64 m0.rows, .int .i64 m0.columns, .int .i64 m0.size, .slice m0.heightsA m0.heightsN m0.heightsC] 53)) (w7.alloc (.cells #[.int .i64 p7.rows, .int .i64 p7.columns, .int .i64 p7.size, .slice p7.heightsA p7.heightsN p7.heightsC] 57)) := tb7.trans (bX.mono tb7.size)
  have o6_X := o6_7.below' bX
  have o7_X := o7.below' bX
  go_wp2_with fail
  refine (toAssetS_any _ _ _ x1 _ (S1.below tX) l2 inn1.out).mono ?_
  rintro e w8 ⟨v8, rfl, o8, b8⟩
  have t8 : Below w.heap.size w w8 := tX.trans (b8.mono tX.size)
  have tb8 : Below (w.alloc (.cells #[.int .i64 m0.rows, .int .i64 m0.columns, .int .i64 m0.size, .slice m0.heightsA m0.heightsN m0.heightsC] 53)).heap.size (w.alloc (.cells #[.int .i64 m0.rows, .int .i64 m0.columns, .int .i64 m0.size, .slice m0.heightsA m0.heightsN m0.heightsC] 53)) w8 := tbX.trans (b8.mono tbX.size)
  have tx8 : Below (w7.alloc (.cells #[.int .i64 p7.rows, .int .i64 p7.columns, .int .i64 p7.size, .slice p7.heightsA p7.heightsN p7.heightsC] 57)).heap.size (w7.alloc (.cells #[.int .i64 p7.rows, .int .i64 p7.columns, .int .i64 p7.size, .slice p7.heightsA p7.heightsN p7.heightsC] 57)) w8 := (Below.refl (w7.alloc (.cells #[.int .i64 p7.rows, .int .i64 p7.columns, .int .i64 p7.size, .slice p7.heightsA p7.heightsN p7.heightsC] 57)).heap.size (w7.alloc (.cells #[.int .i64 p7.rows, .int .i64 p7.columns, .int .i64 p7.size, .slice p7.heightsA p7.heightsN p7.heightsC] 57))).trans (b8.mono (Below.refl (w7.alloc (.cells #[.int .i64 p7.rows, .int .i64 p7.columns, .int .i64 p7.size, .slice p7.heightsA p7.heightsN p7.heightsC] 57)).heap.size (w7.alloc (.cells #[.int .i64 p7.rows, .int .i64 p7.columns, .int .i64 p7.size, .slice p7.heightsA p7.heightsN p7.heightsC] 57))).size)
  have z8 : Hid (w7.heap.size ≤ w8.heap.size) := Nat.le_trans bX.size b8.size
  have o6_8 := o6_X.below' b8
  have o7_8 := o7_X.below' b8
  obtain ⟨A_8, c_8, rfl, hc8, hm8, u8⟩ := o8.slice
  clear u8
  have o8 := o8.bound
  go_wp2_with fail
  refine (toInt64S_any _ _ _ _ _ (s2.below t8) (by omega)).mono ?_
  rintro e w9 ⟨v9, rfl, o9, b9⟩
  have t9 : Below w.heap.size w w9 := t8.trans (b9.mono t8.size)
  have tb9 : Below (w.alloc (.cells #[.int .i64 m0.rows, .int .i64 m0.columns, .int .i64 m0.size, .slice m0.heightsA m0.heightsN m0.heightsC] 53)).heap.size (w.alloc (.cells #[.int .i64 m0.rows, .int .i64 m0.columns, .int .i64 m0.size, .slice m0.heightsA m0.heightsN m0.heightsC] 53)) w9 := tb8.trans (b9.mono tb8.size)
  have tx9 : Below (w7.alloc (.cells #[.int .i64 p7.rows, .int .i64 p7.columns, .int .i64 p7.size, .slice p7.heightsA p7.heightsN p7.heightsC] 57)).heap.size (w7.alloc (.cells #[.int .i64 p7.rows, .int .i64 p7.columns, .int .i64 p7.size, .slice p7.heightsA p7.heightsN p7.heightsC] 57)) w9 := tx8.trans (b9.mono tx8.size)
  have z9 : Hid (w8.heap.size ≤ w9.heap.size) := b9.size
  have o6_9 := o6_8.below' b9
  have o7_9 := o7_8.below' b9
  have o8_9 := o8.below' b9
  have lo9 := Lib.hid o9.lt
  obtain ⟨A_9, c_9, rfl, hc9, hm9, u9⟩ := o9.slice i64cells_len
  clear u9
  have fx0 : w9.cell? ⟨w7.heap.size, 0, none⟩ = some (.int .i64 p7.rows) := (tx9.cell (p := ⟨w7.heap.size, 0, none⟩) (by simp)).trans (HOx.out.cell 0)
  have fx1 : w9.cell? ⟨w7.heap.size, 1, none⟩ = some (.int .i64 p7.columns) := (tx9.cell (p := ⟨w7.heap.size, 1, none⟩) (by simp)).trans (HOx.out.cell 1)
  have fx2 : w9.cell? ⟨w7.heap.size, 2, none⟩ = some (.int .i64 p7.size) := (tx9.cell (p := ⟨w7.heap.size, 2, none⟩) (by simp)).trans (HOx.out.cell 2)
  have fx3 : w9.cell? ⟨w7.heap.size, 3, none⟩ = some (.slice p7.heightsA p7.heightsN p7.heightsC) := (tx9.cell (p := ⟨w7.heap.size, 3, none⟩) (by simp)).trans (HOx.out.cell 3)
  go_wp2_with fail
  clear fx0 fx1 fx2 fx3
  refine (implBuriedBy_any p7 _ _ _ x1 _ _ _ x2 _ (GridR.in_of o7_9) o8_9.sl GG1.out (o9.sl i64cells_len)).mono ?_
  rintro e w10 ⟨v10, he, o10, b10⟩
  try rw [HV7.out] at he
  rw [HV7.out] at o10
  subst he
  have t10 : Below w.heap.size w w10 := t9.trans (b10.mono t9.size)
  have tb10 : Below (w.alloc (.cells #[.int .i64 m0.rows, .int .i64 m0.columns, .int .i64 m0.size, .slice m0.heightsA m0.heightsN m0.heightsC] 53)).heap.size (w.alloc (.cells #[.int .i64 m0.rows, .int .i64 m0.columns, .int .i64 m0.size, .slice m0.heightsA m0.heightsN m0.heightsC] 53)) w10 := tb9.trans (b10.mono tb9.size)
  have tx10 : Below (w7.alloc (.cells #[.int .i64 p7.rows, .int .i64 p7.columns, .int .i64 p7.size, .slice p7.heightsA p7.heightsN p7.heightsC] 57)).heap.size (w7.alloc (.cells #[.int .i64 p7.rows, .int .i64 p7.columns, .int .i64 p7.size, .slice p7.heightsA p7.heightsN p7.heightsC] 57)) w10 := tx9.trans (b10.mono tx9.size)
  have z10 : Hid (w9.heap.size ≤ w10.heap.size) := b10.size
  have o6_10 := o6_9.below' b10
  have o7_10 := o7_9.below' b10
  have o8_10 := o8_9.below' b10
  have o9_10 := o9.below' b10
  have lo10 := Lib.hid o10.lt
  have HL10 : Hid ((buriedA m0.val x1 x2).length ≤ 1048576) := buriedA_len _ _ _
  go_wp2_with fail
  refine (eqInt64S_own o10 o6_10).mono ?_
  rintro e w11 ⟨rfl, b11⟩
  have t11 : Below w.heap.size w w11 := t10.trans (b11.mono t10.size)
  have tb11 : Below (w.alloc (.cells #[.int .i64 m0.rows, .int .i64 m0.columns, .int .i64 m0.size, .slice m0.heightsA m0.heightsN m0.heightsC] 53)).heap.size (w.alloc (.cells #[.int .i64 m0.rows, .int .i64 m0.columns, .int .i64 m0.size, .slice m0.heightsA m0.heightsN m0.heightsC] 53)) w11 := tb10.trans (b11.mono tb10.size)
  have tx11 : Below (w7.alloc (.cells #[.int .i64 p7.rows, .int .i64 p7.columns, .int .i64 p7.size, .slice p7.heightsA p7.heightsN p7.heightsC] 57)).heap.size (w7.alloc (.cells #[.int .i64 p7.rows, .int .i64 p7.columns, .int .i64 p7.size, .slice p7.heightsA p7.heightsN p7.heightsC] 57)) w11 := tx10.trans (b11.mono tx10.size)
  have z11 : Hid (w10.heap.size ≤ w11.heap.size) := b11.size
  have o6_11 := o6_10.below' b11
  have o7_11 := o7_10.below' b11
  have o8_11 := o8_10.below' b11
  have o9_11 := o9_10.below' b11
  have o10_11 := o10.below' b11
  rw [Int64.eqSB_self]
  have fa0 : w11.cell? ⟨w.heap.size, 0, none⟩ = some (.int .i64 m0.rows) := (tb11.cell (p := ⟨w.heap.size, 0, none⟩) (by simp)).trans (HOb.out.cell 0)
  have fa1 : w11.cell? ⟨w.heap.size, 1, none⟩ = some (.int .i64 m0.columns) := (tb11.cell (p := ⟨w.heap.size, 1, none⟩) (by simp)).trans (HOb.out.cell 1)
  have fa2 : w11.cell? ⟨w.heap.size, 2, none⟩ = some (.int .i64 m0.size) := (tb11.cell (p := ⟨w.heap.size, 2, none⟩) (by simp)).trans (HOb.out.cell 2)
  have fa3 : w11.cell? ⟨w.heap.size, 3, none⟩ = some (.slice m0.heightsA m0.heightsN m0.heightsC) := (tb11.cell (p := ⟨w.heap.size, 3, none⟩) (by simp)).trans (HOb.out.cell 3)
  have fx0 : w11.cell? ⟨w7.heap.size, 0, none⟩ = some (.int .i64 p7.rows) := (tx11.cell (p := ⟨w7.heap.size, 0, none⟩) (by simp)).trans (HOx.out.cell 0)
  have fx1 : w11.cell? ⟨w7.heap.size, 1, none⟩ = some (.int .i64 p7.columns) := (tx11.cell (p := ⟨w7.heap.size, 1, none⟩) (by simp)).trans (HOx.out.cell 1)
  have fx2 : w11.cell? ⟨w7.heap.size, 2, none⟩ = some (.int .i64 p7.size) := (tx11.cell (p := ⟨w7.heap.size, 2, none⟩) (by simp)).trans (HOx.out.cell 2)
  have fx3 : w11.cell? ⟨w7.heap.size, 3, none⟩ = some (.slice p7.heightsA p7.heightsN p7.heightsC) := (tx11.cell (p := ⟨w7.heap.size, 3, none⟩) (by simp)).trans (HOx.out.cell 3)
  have mX : m0.In w11 := MI.out.below t11
  have pX : p7.In w11 := GridR.in_of o7_11
  have MX := Lib.hid mX
  have PX := Lib.hid pX
  clear mX pX
  have saX : w.heap.size < w11.heap.size := Nat.lt_of_lt_of_le (by simp) tb11.size
  have sxX : w7.heap.size < w11.heap.size := Nat.lt_of_lt_of_le (by simp) tx11.size
  have HS : ∀ w', Below w11.heap.size w11 w' → w'.cell? ⟨w.heap.size, 0, none⟩ = some (.int .i64 m0.rows) ∧ w'.cell? ⟨w.heap.size, 1, none⟩ = some (.int .i64 m0.columns) ∧ w'.cell? ⟨w.heap.size, 2, none⟩ = some (.int .i64 m0.size) ∧ w'.cell? ⟨w.heap.size, 3, none⟩ = some (.slice m0.heightsA m0.heightsN m0.heightsC) ∧ w'.cell? ⟨w7.heap.size, 0, none⟩ = some (.int .i64 p7.rows) ∧ w'.cell? ⟨w7.heap.size, 1, none⟩ = some (.int .i64 p7.columns) ∧ w'.cell? ⟨w7.heap.size, 2, none⟩ = some (.int .i64 p7.size) ∧ w'.cell? ⟨w7.heap.size, 3, none⟩ = some (.slice p7.heightsA p7.heightsN p7.heightsC) ∧ Below w11.heap.size w11 w' := fun w' h => ⟨(h.cell (p := ⟨w.heap.size, 0, none⟩) saX).trans fa0, (h.cell (p := ⟨w.heap.size, 1, none⟩) saX).trans fa1, (h.cell (p := ⟨w.heap.size, 2, none⟩) saX).trans fa2, (h.cell (p := ⟨w.heap.size, 3, none⟩) saX).trans fa3, (h.cell (p := ⟨w7.heap.size, 0, none⟩) sxX).trans fx0, (h.cell (p := ⟨w7.heap.size, 1, none⟩) sxX).trans fx1, (h.cell (p := ⟨w7.heap.size, 2, none⟩) sxX).trans fx2, (h.cell (p := ⟨w7.heap.size, 3, none⟩) sxX).trans fx3, h⟩
  go_wp2_with fail
  clear fa0 fa1 fa2 fa3 fx0 fx1 fx2 fx3
  go_region_held3 (fun w' => w'.cell? ⟨w.heap.size, 0, none⟩ = some (.int .i64 m0.rows) ∧ w'.cell? ⟨w.heap.size, 1, none⟩ = some (.int .i64 m0.columns) ∧ w'.cell? ⟨w.heap.size, 2, none⟩ = some (.int .i64 m0.size) ∧ w'.cell? ⟨w.heap.size, 3, none⟩ = some (.slice m0.heightsA m0.heightsN m0.heightsC) ∧ w'.cell? ⟨w7.heap.size, 0, none⟩ = some (.int .i64 p7.rows) ∧ w'.cell? ⟨w7.heap.size, 1, none⟩ = some (.int .i64 p7.columns) ∧ w'.cell? ⟨w7.heap.size, 2, none⟩ = some (.int .i64 p7.size) ∧ w'.cell? ⟨w7.heap.size, 3, none⟩ = some (.slice p7.heightsA p7.heightsN p7.heightsC) ∧ Below w11.heap.size w11 w') (first | exact HS _ (Below.refl _ _) | exact HS _ (Below.drew (Below.refl _ _)) | exact HS _ hBv | exact HS _ (Below.drew hBv) | exact HS _ hBw | exact HS _ (Below.drew hBw)) (first | (go_at_call 28; refine (toGrid_any m0 _ (MX.out.below (‹_ ∧ _ ∧ _ ∧ _ ∧ _ ∧ _ ∧ _ ∧ _ ∧ Below w11.heap.size w11 _›).2.2.2.2.2.2.2.2) l1).mono ?_; rintro e wq ⟨q, rfl, hq, oq, hbq⟩; have hBw := (‹_ ∧ _ ∧ _ ∧ _ ∧ _ ∧ _ ∧ _ ∧ _ ∧ Below w11.heap.size w11 _›).2.2.2.2.2.2.2.2.trans (hbq.mono (‹_ ∧ _ ∧ _ ∧ _ ∧ _ ∧ _ ∧ _ ∧ _ ∧ Below w11.heap.size w11 _›).2.2.2.2.2.2.2.2.size); have hqi : q.In wq := GridR.in_of oq) | (go_at_call 30; refine (eqGrid_any p7 q _ (PX.out.below (‹_ ∧ _ ∧ _ ∧ _ ∧ _ ∧ _ ∧ _ ∧ _ ∧ Below w11.heap.size w11 _›).2.2.2.2.2.2.2.2) (by first | exact hqi | exact hqi.below ((Below.refl _ _).drew))).mono ?_; rintro e w12 ⟨rfl, hbe⟩; have hBv := (‹_ ∧ _ ∧ _ ∧ _ ∧ _ ∧ _ ∧ _ ∧ _ ∧ Below w11.heap.size w11 _›).2.2.2.2.2.2.2.2.trans (hbe.mono (‹_ ∧ _ ∧ _ ∧ _ ∧ _ ∧ _ ∧ _ ∧ _ ∧ Below w11.heap.size w11 _›).2.2.2.2.2.2.2.2.size); rw [HV7.out, hq, Grid.eqB_self]))
  clear HS
  have b12 := hBv
  have t12 : Below w.heap.size w w12 := t11.trans (b12.mono t11.size)
  have tb12 : Below (w.alloc (.cells #[.int .i64 m0.rows, .int .i64 m0.columns, .int .i64 m0.size, .slice m0.heightsA m0.heightsN m0.heightsC] 53)).heap.size (w.alloc (.cells #[.int .i64 m0.rows, .int .i64 m0.columns, .int .i64 m0.size, .slice m0.heightsA m0.heightsN m0.heightsC] 53)) w12 := tb11.trans (b12.mono tb11.size)
  have tx12 : Below (w7.alloc (.cells #[.int .i64 p7.rows, .int .i64 p7.columns, .int .i64 p7.size, .slice p7.heightsA p7.heightsN p7.heightsC] 57)).heap.size (w7.alloc (.cells #[.int .i64 p7.rows, .int .i64 p7.columns, .int .i64 p7.size, .slice p7.heightsA p7.heightsN p7.heightsC] 57)) w12 := tx11.trans (b12.mono tx11.size)
  have z12 : Hid (w11.heap.size ≤ w12.heap.size) := b12.size
  have o6_12 := o6_11.below' b12
  have o7_12 := o7_11.below' b12
  have o8_12 := o8_11.below' b12
  have o9_12 := o9_11.below' b12
  have o10_12 := o10_11.below' b12
  go_wp2_with fail
  refine (toAssetS_any _ _ _ x1 _ (S1.below t12) l2 inn1.out).mono ?_
  rintro e w13 ⟨v13, rfl, o13, b13⟩
  have t13 : Below w.heap.size w w13 := t12.trans (b13.mono t12.size)
  have tb13 : Below (w.alloc (.cells #[.int .i64 m0.rows, .int .i64 m0.columns, .int .i64 m0.size, .slice m0.heightsA m0.heightsN m0.heightsC] 53)).heap.size (w.alloc (.cells #[.int .i64 m0.rows, .int .i64 m0.columns, .int .i64 m0.size, .slice m0.heightsA m0.heightsN m0.heightsC] 53)) w13 := tb12.trans (b13.mono tb12.size)
  have tx13 : Below (w7.alloc (.cells #[.int .i64 p7.rows, .int .i64 p7.columns, .int .i64 p7.size, .slice p7.heightsA p7.heightsN p7.heightsC] 57)).heap.size (w7.alloc (.cells #[.int .i64 p7.rows, .int .i64 p7.columns, .int .i64 p7.size, .slice p7.heightsA p7.heightsN p7.heightsC] 57)) w13 := tx12.trans (b13.mono tx12.size)
  have z13 : Hid (w12.heap.size ≤ w13.heap.size) := b13.size
  have o6_13 := o6_12.below' b13
  have o7_13 := o7_12.below' b13
  have o8_13 := o8_12.below' b13
  have o9_13 := o9_12.below' b13
  have o10_13 := o10_12.below' b13
  obtain ⟨A_13, c_13, rfl, hc13, hm13, u13⟩ := o13.slice
  clear u13
  go_wp2_with fail
  refine (eqAssetS_any _ _ _ _ _ _ _ _ _ o8_13.sl o13.sl).mono ?_
  rintro e w14 ⟨rfl, b14⟩
  have t14 : Below w.heap.size w w14 := t13.trans (b14.mono t13.size)
  have tb14 : Below (w.alloc (.cells #[.int .i64 m0.rows, .int .i64 m0.columns, .int .i64 m0.size, .slice m0.heightsA m0.heightsN m0.heightsC] 53)).heap.size (w.alloc (.cells #[.int .i64 m0.rows, .int .i64 m0.columns, .int .i64 m0.size, .slice m0.heightsA m0.heightsN m0.heightsC] 53)) w14 := tb13.trans (b14.mono tb13.size)
  have tx14 : Below (w7.alloc (.cells #[.int .i64 p7.rows, .int .i64 p7.columns, .int .i64 p7.size, .slice p7.heightsA p7.heightsN p7.heightsC] 57)).heap.size (w7.alloc (.cells #[.int .i64 p7.rows, .int .i64 p7.columns, .int .i64 p7.size, .slice p7.heightsA p7.heightsN p7.heightsC] 57)) w14 := tx13.trans (b14.mono tx13.size)
  have z14 : Hid (w13.heap.size ≤ w14.heap.size) := b14.size
  have o6_14 := o6_13.below' b14
  have o7_14 := o7_13.below' b14
  have o8_14 := o8_13.below' b14
  have o9_14 := o9_13.below' b14
  have o10_14 := o10_13.below' b14
  have o13_14 := o13.below' b14
  go_wp2_with fail
  refine (toInt64S_any _ _ _ _ _ (s2.below t14) (by omega)).mono ?_
  rintro e w15 ⟨v15, rfl, o15, b15⟩
  have t15 : Below w.heap.size w w15 := t14.trans (b15.mono t14.size)
  have tb15 : Below (w.alloc (.cells #[.int .i64 m0.rows, .int .i64 m0.columns, .int .i64 m0.size, .slice m0.heightsA m0.heightsN m0.heightsC] 53)).heap.size (w.alloc (.cells #[.int .i64 m0.rows, .int .i64 m0.columns, .int .i64 m0.size, .slice m0.heightsA m0.heightsN m0.heightsC] 53)) w15 := tb14.trans (b15.mono tb14.size)
  have tx15 : Below (w7.alloc (.cells #[.int .i64 p7.rows, .int .i64 p7.columns, .int .i64 p7.size, .slice p7.heightsA p7.heightsN p7.heightsC] 57)).heap.size (w7.alloc (.cells #[.int .i64 p7.rows, .int .i64 p7.columns, .int .i64 p7.size, .slice p7.heightsA p7.heightsN p7.heightsC] 57)) w15 := tx14.trans (b15.mono tx14.size)
  have z15 : Hid (w14.heap.size ≤ w15.heap.size) := b15.size
  have o6_15 := o6_14.below' b15
  have o7_15 := o7_14.below' b15
  have o8_15 := o8_14.below' b15
  have o9_15 := o9_14.below' b15
  have o10_15 := o10_14.below' b15
  have lo15 := Lib.hid o15.lt
  obtain ⟨A_15, c_15, rfl, hc15, hm15, u15⟩ := o15.slice i64cells_len
  clear u15
  go_wp2_with fail
  refine (eqInt64S_any _ _ _ _ _ _ _ _ _ (o9_15.sl i64cells_len) (o15.sl i64cells_len)).mono ?_
  rintro e w16 ⟨rfl, b16⟩
  have t16 : Below w.heap.size w w16 := t15.trans (b16.mono t15.size)
  have tb16 : Below (w.alloc (.cells #[.int .i64 m0.rows, .int .i64 m0.columns, .int .i64 m0.size, .slice m0.heightsA m0.heightsN m0.heightsC] 53)).heap.size (w.alloc (.cells #[.int .i64 m0.rows, .int .i64 m0.columns, .int .i64 m0.size, .slice m0.heightsA m0.heightsN m0.heightsC] 53)) w16 := tb15.trans (b16.mono tb15.size)
  have tx16 : Below (w7.alloc (.cells #[.int .i64 p7.rows, .int .i64 p7.columns, .int .i64 p7.size, .slice p7.heightsA p7.heightsN p7.heightsC] 57)).heap.size (w7.alloc (.cells #[.int .i64 p7.rows, .int .i64 p7.columns, .int .i64 p7.size, .slice p7.heightsA p7.heightsN p7.heightsC] 57)) w16 := tx15.trans (b16.mono tx15.size)
  have z16 : Hid (w15.heap.size ≤ w16.heap.size) := b16.size
  have o6_16 := o6_15.below' b16
  have o7_16 := o7_15.below' b16
  have o8_16 := o8_15.below' b16
  have o9_16 := o9_15.below' b16
  have o10_16 := o10_15.below' b16
  have o15_16 := o15.below' b16
  have HLP : Hid (p7.heights.length ≤ 1048576) := by
    have h := congrArg (fun q => q.heights.length) HV7.out
    rw [Hid, show p7.heights.length = m0.heights.length from h, hl0.out]; exact l1
  have fx0 : w16.cell? ⟨w7.heap.size, 0, none⟩ = some (.int .i64 p7.rows) := (tx16.cell (p := ⟨w7.heap.size, 0, none⟩) (by simp)).trans (HOx.out.cell 0)
  have fx1 : w16.cell? ⟨w7.heap.size, 1, none⟩ = some (.int .i64 p7.columns) := (tx16.cell (p := ⟨w7.heap.size, 1, none⟩) (by simp)).trans (HOx.out.cell 1)
  have fx2 : w16.cell? ⟨w7.heap.size, 2, none⟩ = some (.int .i64 p7.size) := (tx16.cell (p := ⟨w7.heap.size, 2, none⟩) (by simp)).trans (HOx.out.cell 2)
  have fx3 : w16.cell? ⟨w7.heap.size, 3, none⟩ = some (.slice p7.heightsA p7.heightsN p7.heightsC) := (tx16.cell (p := ⟨w7.heap.size, 3, none⟩) (by simp)).trans (HOx.out.cell 3)
  go_wp2_with fail
  clear fx0 fx1 fx2 fx3
  refine (markGrid_any _ p7 _ _ o7_16 (by omega) (by omega) HLP.out).mono ?_
  rintro e w17 ⟨rfl, mk17⟩
  have sp17 : Span w6.heap.size w7.heap.size w16 w17 := mk17 _ _ (fun k hk => lo7.out k hk)
  have z17 : Hid (w16.heap.size ≤ w17.heap.size) := sp17.size
  have t17 : Below w.heap.size w w17 := Below.span t16 sp17 t16.size t6.size
  have tb17 : Below (w.alloc (.cells #[.int .i64 m0.rows, .int .i64 m0.columns, .int .i64 m0.size, .slice m0.heightsA m0.heightsN m0.heightsC] 53)).heap.size (w.alloc (.cells #[.int .i64 m0.rows, .int .i64 m0.columns, .int .i64 m0.size, .slice m0.heightsA m0.heightsN m0.heightsC] 53)) w17 := Below.span tb16 sp17 tb16.size tb6.size
  have o6_17 := o6_16.span sp17 (fun k hk => by have h := lo6.out k hk;  omega)
  have o8_17 := o8_16.span sp17 (by  have := bX.size; omega)
  have o9_17 := o9_16.span sp17 (fun k hk => by have h := lo9.out k hk; have := z8.out; omega)
  have o10_17 := o10_16.span sp17 (fun k hk => by have h := lo10.out k hk; have := z8.out; have := z9.out; omega)
  clear mk17
  have hlp := HLP.out
  go_wp2_with fail
  refine (markAssetS_any _ _ _ _ _ x1 _ _ o8_17 (by omega) (by omega) (by rw [S1.len]; exact l2) inn1.out).mono ?_
  rintro e w18 ⟨k18, rfl, ⟨ka18, kb18⟩, mk18⟩
  rw [S1.len] at kb18
  have sp18 : Span w7.heap.size w8.heap.size w17 w18 := mk18.mono bX.size (Nat.le_refl _)
  have z18 : Hid (w17.heap.size ≤ w18.heap.size) := sp18.size
  have t18 : Below w.heap.size w w18 := Below.span t17 sp18 t17.size t7.size
  have tb18 : Below (w.alloc (.cells #[.int .i64 m0.rows, .int .i64 m0.columns, .int .i64 m0.size, .slice m0.heightsA m0.heightsN m0.heightsC] 53)).heap.size (w.alloc (.cells #[.int .i64 m0.rows, .int .i64 m0.columns, .int .i64 m0.size, .slice m0.heightsA m0.heightsN m0.heightsC] 53)) w18 := Below.span tb17 sp18 tb17.size tb7.size
  have o6_18 := o6_17.span sp18 (fun k hk => by have h := lo6.out k hk; have := z7.out; omega)
  have o9_18 := o9_17.span sp18 (fun k hk => by have h := lo9.out k hk;  omega)
  have o10_18 := o10_17.span sp18 (fun k hk => by have h := lo10.out k hk; have := z9.out; omega)
  clear mk18
  go_wp2_with fail
  refine (markInt64S_any _ _ x2 _ _ o9_18 (by omega) (by omega) (by rw [hl2.out]; exact (by omega))).mono ?_
  rintro e w19 ⟨rfl, om19, mk19⟩
  have hlx19 : x2.length = n2 := hl2.out
  have Hlx19 := Lib.hid hlx19
  clear om19
  have sp19 : Span w8.heap.size w9.heap.size w18 w19 := mk19.span (fun k hk => lo9.out k hk)
  have z19 : Hid (w18.heap.size ≤ w19.heap.size) := sp19.size
  have t19 : Below w.heap.size w w19 := Below.span t18 sp19 t18.size t8.size
  have tb19 : Below (w.alloc (.cells #[.int .i64 m0.rows, .int .i64 m0.columns, .int .i64 m0.size, .slice m0.heightsA m0.heightsN m0.heightsC] 53)).heap.size (w.alloc (.cells #[.int .i64 m0.rows, .int .i64 m0.columns, .int .i64 m0.size, .slice m0.heightsA m0.heightsN m0.heightsC] 53)) w19 := Below.span tb18 sp19 tb18.size tb8.size
  have o6_19 := o6_18.span sp19 (fun k hk => by have h := lo6.out k hk; have := z7.out; have := z8.out; omega)
  have o10_19 := o10_18.span sp19 (fun k hk => by have h := lo10.out k hk;  omega)
  clear mk19
  try clear hlx19
  go_wp2_with fail
  refine (eqInt64S_own o10_19 o6_19).mono ?_
  rintro e w20 ⟨rfl, b20⟩
  have t20 : Below w.heap.size w w20 := t19.trans (b20.mono t19.size)
  have tb20 : Below (w.alloc (.cells #[.int .i64 m0.rows, .int .i64 m0.columns, .int .i64 m0.size, .slice m0.heightsA m0.heightsN m0.heightsC] 53)).heap.size (w.alloc (.cells #[.int .i64 m0.rows, .int .i64 m0.columns, .int .i64 m0.size, .slice m0.heightsA m0.heightsN m0.heightsC] 53)) w20 := tb19.trans (b20.mono tb19.size)
  have z20 : Hid (w19.heap.size ≤ w20.heap.size) := b20.size
  have o6_20 := o6_19.below' b20
  have o10_20 := o10_19.below' b20
  rw [Int64.eqSB_self]
  go_wp2_with fail
  refine (markInt64S_any _ _ _ _ _ o10_20 (by omega) (by omega) HL10.out).mono ?_
  rintro e w21 ⟨rfl, om21, mk21⟩
  have sp21 : Span w9.heap.size w10.heap.size w20 w21 := mk21.span (fun k hk => lo10.out k hk)
  have z21 : Hid (w20.heap.size ≤ w21.heap.size) := sp21.size
  have t21 : Below w.heap.size w w21 := Below.span t20 sp21 t20.size t9.size
  have tb21 : Below (w.alloc (.cells #[.int .i64 m0.rows, .int .i64 m0.columns, .int .i64 m0.size, .slice m0.heightsA m0.heightsN m0.heightsC] 53)).heap.size (w.alloc (.cells #[.int .i64 m0.rows, .int .i64 m0.columns, .int .i64 m0.size, .slice m0.heightsA m0.heightsN m0.heightsC] 53)) w21 := Below.span tb20 sp21 tb20.size tb9.size
  have o6_21 := o6_20.span sp21 (fun k hk => by have h := lo6.out k hk; have := z7.out; have := z8.out; have := z9.out; omega)
  clear mk21
  go_wp2_with fail
  refine (heldInt64S_any _ _ _ _ _ om21 (by omega) (by omega) HL10.out).mono ?_
  rintro e w' ⟨rfl, rfl⟩
  have fa0 : w21.cell? ⟨w.heap.size, 0, none⟩ = some (.int .i64 m0.rows) := (tb21.cell (p := ⟨w.heap.size, 0, none⟩) (by simp)).trans (HOb.out.cell 0)
  have fa1 : w21.cell? ⟨w.heap.size, 1, none⟩ = some (.int .i64 m0.columns) := (tb21.cell (p := ⟨w.heap.size, 1, none⟩) (by simp)).trans (HOb.out.cell 1)
  have fa2 : w21.cell? ⟨w.heap.size, 2, none⟩ = some (.int .i64 m0.size) := (tb21.cell (p := ⟨w.heap.size, 2, none⟩) (by simp)).trans (HOb.out.cell 2)
  have fa3 : w21.cell? ⟨w.heap.size, 3, none⟩ = some (.slice m0.heightsA m0.heightsN m0.heightsC) := (tb21.cell (p := ⟨w.heap.size, 3, none⟩) (by simp)).trans (HOb.out.cell 3)
  go_wp2_with fail
  clear fa0 fa1 fa2 fa3
  refine (toGrid_any m0 _ (MI.out.below t21) l1).mono ?_
  rintro e w22 ⟨p22, rfl, hv22, o22, b22⟩
  have t22 : Below w.heap.size w w22 := t21.trans (b22.mono t21.size)
  have tb22 : Below (w.alloc (.cells #[.int .i64 m0.rows, .int .i64 m0.columns, .int .i64 m0.size, .slice m0.heightsA m0.heightsN m0.heightsC] 53)).heap.size (w.alloc (.cells #[.int .i64 m0.rows, .int .i64 m0.columns, .int .i64 m0.size, .slice m0.heightsA m0.heightsN m0.heightsC] 53)) w22 := tb21.trans (b22.mono tb21.size)
  have z22 : Hid (w21.heap.size ≤ w22.heap.size) := b22.size
  have o6_22 := o6_21.below' b22
  have om21_22 := om21.below' b22
  have HV22 := Lib.hid hv22
  clear hv22
  have lo22 := Lib.hid o22.lt
  go_wp2_with fail
  refine (toAssetS_any _ _ _ x1 _ (S1.below t22) l2 inn1.out).mono ?_
  rintro e w23 ⟨v23, rfl, o23, b23⟩
  have t23 : Below w.heap.size w w23 := t22.trans (b23.mono t22.size)
  have tb23 : Below (w.alloc (.cells #[.int .i64 m0.rows, .int .i64 m0.columns, .int .i64 m0.size, .slice m0.heightsA m0.heightsN m0.heightsC] 53)).heap.size (w.alloc (.cells #[.int .i64 m0.rows, .int .i64 m0.columns, .int .i64 m0.size, .slice m0.heightsA m0.heightsN m0.heightsC] 53)) w23 := tb22.trans (b23.mono tb22.size)
  have z23 : Hid (w22.heap.size ≤ w23.heap.size) := b23.size
  have o6_23 := o6_22.below' b23
  have om21_23 := om21_22.below' b23
  have o22_23 := o22.below' b23
  obtain ⟨A_23, c_23, rfl, hc23, hm23, u23⟩ := o23.slice
  clear u23
  go_wp2_with fail
  refine (toInt64S_any _ _ _ _ _ (s2.below t23) (by omega)).mono ?_
  rintro e w24 ⟨v24, rfl, o24, b24⟩
  have t24 : Below w.heap.size w w24 := t23.trans (b24.mono t23.size)
  have tb24 : Below (w.alloc (.cells #[.int .i64 m0.rows, .int .i64 m0.columns, .int .i64 m0.size, .slice m0.heightsA m0.heightsN m0.heightsC] 53)).heap.size (w.alloc (.cells #[.int .i64 m0.rows, .int .i64 m0.columns, .int .i64 m0.size, .slice m0.heightsA m0.heightsN m0.heightsC] 53)) w24 := tb23.trans (b24.mono tb23.size)
  have z24 : Hid (w23.heap.size ≤ w24.heap.size) := b24.size
  have o6_24 := o6_23.below' b24
  have om21_24 := om21_23.below' b24
  have o22_24 := o22_23.below' b24
  have o23_24 := o23.below' b24
  have lo24 := Lib.hid o24.lt
  obtain ⟨A_24, c_24, rfl, hc24, hm24, u24⟩ := o24.slice i64cells_len
  clear u24
  go_wp2_with fail
  refine (implBuriedBy_any p22 _ _ _ x1 _ _ _ x2 _ (GridR.in_of o22_24) o23_24.sl GG1.out (o24.sl i64cells_len)).mono ?_
  rintro e w25 ⟨v25, he, o25, b25⟩
  try rw [HV22.out] at he
  rw [HV22.out] at o25
  subst he
  have t25 : Below w.heap.size w w25 := t24.trans (b25.mono t24.size)
  have tb25 : Below (w.alloc (.cells #[.int .i64 m0.rows, .int .i64 m0.columns, .int .i64 m0.size, .slice m0.heightsA m0.heightsN m0.heightsC] 53)).heap.size (w.alloc (.cells #[.int .i64 m0.rows, .int .i64 m0.columns, .int .i64 m0.size, .slice m0.heightsA m0.heightsN m0.heightsC] 53)) w25 := tb24.trans (b25.mono tb24.size)
  have z25 : Hid (w24.heap.size ≤ w25.heap.size) := b25.size
  have o6_25 := o6_24.below' b25
  have om21_25 := om21_24.below' b25
  have o22_25 := o22_24.below' b25
  have o23_25 := o23_24.below' b25
  have o24_25 := o24.below' b25
  have lo25 := Lib.hid o25.lt
  go_wp2_with fail
  refine (eqInt64S_own o25 o6_25).mono ?_
  rintro e w26 ⟨rfl, b26⟩
  have t26 : Below w.heap.size w w26 := t25.trans (b26.mono t25.size)
  have tb26 : Below (w.alloc (.cells #[.int .i64 m0.rows, .int .i64 m0.columns, .int .i64 m0.size, .slice m0.heightsA m0.heightsN m0.heightsC] 53)).heap.size (w.alloc (.cells #[.int .i64 m0.rows, .int .i64 m0.columns, .int .i64 m0.size, .slice m0.heightsA m0.heightsN m0.heightsC] 53)) w26 := tb25.trans (b26.mono tb25.size)
  have z26 : Hid (w25.heap.size ≤ w26.heap.size) := b26.size
  have o6_26 := o6_25.below' b26
  have om21_26 := om21_25.below' b26
  have o25_26 := o25.below' b26
  rw [Int64.eqSB_self]
  go_wp2_with fail
  refine (heldInt64S_any _ _ _ _ _ om21_26 (by omega) (by omega) HL10.out).mono ?_
  rintro e w' ⟨rfl, rfl⟩
  go_wp2
  go_ret
  exact Ret.b rfl t26

end Go.Proofs.Ytdpepdcbgocbcaa
