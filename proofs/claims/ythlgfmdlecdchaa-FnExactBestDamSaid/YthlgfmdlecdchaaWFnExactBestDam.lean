/- The walk of the law FnExactBestDam: it returns true. -/
import Derived.Test.YthlgfmdlecdchaaDamI
import Derived.Deep.RegionHeld3
namespace Go.Proofs.Ythlgfmdlecdchaa
open Go.RowKit

set_option maxRecDepth 100000 in
set_option maxHeartbeats 1000000 in
theorem walk_FnExactBestDam (m0 : GridR) (A1 : Option Addr) (n1 c1 : Nat) (p1 : List AssetR) (A2 : Option Addr) (n2 c2 : Nat) (x2 : List Int) (a3 : Int) (a4 : Int) (w : World) (mi0 : m0.In w) (mg0 : m0.val.Good) (s1 : SliceOf w 3 AssetR.cells A1 n1 p1) (g1 : ∀ x ∈ p1, x.In w ∧ x.val.Good) (s2 : SliceOf w 1 i64cells A2 n2 x2) (_g2 : ∀ x ∈ x2, I64 x) (_g3 : I64 a3) (_g4 : I64 a4) : Calls Try.prog 4 #[.agg #[.int .i64 m0.rows, .int .i64 m0.columns, .int .i64 m0.size, .slice m0.heightsA m0.heightsN m0.heightsC], .slice A1 n1 c1, .slice A2 n2 c2, .int .i64 a3, .int .i64 a4] w (Ret (.bool true) w) := by
  obtain ⟨x1, hx1⟩ : ∃ x, p1.map AssetR.val = x := ⟨_, rfl⟩
  have e1 := Asset.eqSB_self x1
  have ln1 := s1.le
  have hl1 := Lib.hid s1.len
  have S1 : Asset.Sl w A1 n1 x1 := ⟨p1, s1, fun p hp => (g1 p hp).1, hx1.symm⟩
  have Hx1 := Lib.hid hx1
  clear hx1
  have G1 := Lib.hid g1
  have GG1 : Hid (∀ x ∈ x1, x.Good) := fun x hx => by
    rw [← Hx1.out] at hx
    obtain ⟨p, hp, rfl⟩ := List.mem_map.1 hx
    exact (G1.out p hp).2
  clear g1
  have e2 := Int64.eqSB_self x2
  have ln2 := s2.le
  have hl2 := Lib.hid s2.len
  by_cases L2 : 1048576 < n2
  · go_enter Try.func4, Try.ntmps4
    go_wp2
    go_ret
    exact Ret.b rfl (by first | exact Below.refl _ _ | exact (Below.refl _ _).alloc (Nat.le_refl _) _)
  have hBx : Below w.heap.size w (w.alloc (.cells #[.int .i64 m0.rows, .int .i64 m0.columns, .int .i64 m0.size, .slice m0.heightsA m0.heightsN m0.heightsC] 36)) := (Below.refl _ _).alloc (Nat.le_refl _) _
  have HOb := Lib.hid (Own.new w 36 #[.int .i64 m0.rows, .int .i64 m0.columns, .int .i64 m0.size, .slice m0.heightsA m0.heightsN m0.heightsC])
  have MI := Lib.hid mi0
  have MG := Lib.hid mg0
  have ln0 := mi0.1.le
  have hl0 := Lib.hid mi0.1.len
  clear mi0 mg0
  go_enter Try.func4, Try.ntmps4
  go_wp2_with fail
  refine (szGrid_any m0 _ _ (MI.out.below hBx) MG.out (by omega) (by omega)).mono ?_
  rintro e w1 ⟨v, rfl, ⟨r1, rfl, q1⟩, b1⟩
  have t1 : Below w.heap.size w w1 := hBx.trans (b1.mono hBx.size)
  have tb1 : Below (w.alloc (.cells #[.int .i64 m0.rows, .int .i64 m0.columns, .int .i64 m0.size, .slice m0.heightsA m0.heightsN m0.heightsC] 36)).heap.size (w.alloc (.cells #[.int .i64 m0.rows, .int .i64 m0.columns, .int .i64 m0.size, .slice m0.heightsA m0.heightsN m0.heightsC] 36)) w1 := (Below.refl (w.alloc (.cells #[.int .i64 m0.rows, .int .i64 m0.columns, .int .i64 m0.size, .slice m0.heightsA m0.heightsN m0.heightsC] 36)).heap.size (w.alloc (.cells #[.int .i64 m0.rows, .int .i64 m0.columns, .int .i64 m0.size, .slice m0.heightsA m0.heightsN m0.heightsC] 36))).trans (b1.mono (Below.refl (w.alloc (.cells #[.int .i64 m0.rows, .int .i64 m0.columns, .int .i64 m0.size, .slice m0.heightsA m0.heightsN m0.heightsC] 36)).heap.size (w.alloc (.cells #[.int .i64 m0.rows, .int .i64 m0.columns, .int .i64 m0.size, .slice m0.heightsA m0.heightsN m0.heightsC] 36))).size)
  have z1 : Hid (w.heap.size ≤ w1.heap.size) := t1.size
  have Q1 := Lib.hid q1
  have r1c : r1 < 0 ∨ 0 ≤ r1 ∧ r1 ≤ 1048576 ∧ (m0.heightsN : Int) ≤ 1048576 := by rcases q1 with h | h <;> omega
  clear q1
  by_cases y1 : r1 < 0
  · go_wp2
    go_ret
    exact Ret.b rfl t1
  have l1 : m0.heightsN ≤ 1048576 := by omega
  go_wp2_with fail
  refine (szAssetS_any _ _ _ p1 _ _ (s1.below t1) (fun p hp => (G1.out p hp).1.below t1) (fun p hp => (G1.out p hp).2) (by omega) (by omega)).mono ?_
  rintro e w2 ⟨v, rfl, ⟨r2, rfl, q2⟩, b2⟩
  have t2 : Below w.heap.size w w2 := t1.trans (b2.mono t1.size)
  have tb2 : Below (w.alloc (.cells #[.int .i64 m0.rows, .int .i64 m0.columns, .int .i64 m0.size, .slice m0.heightsA m0.heightsN m0.heightsC] 36)).heap.size (w.alloc (.cells #[.int .i64 m0.rows, .int .i64 m0.columns, .int .i64 m0.size, .slice m0.heightsA m0.heightsN m0.heightsC] 36)) w2 := tb1.trans (b2.mono tb1.size)
  have z2 : Hid (w1.heap.size ≤ w2.heap.size) := b2.size
  have Q2 := Lib.hid q2
  have r2c : r2 < 0 ∨ 0 ≤ r2 ∧ r2 ≤ r1 ∧ (n1 : Int) ≤ 1048576 := by rcases q2 with h | h <;> omega
  clear q2
  by_cases y2 : r2 < 0
  · go_wp2
    go_ret
    exact Ret.b rfl t2
  have l2 : n1 ≤ 1048576 := by omega
  have inn1 : Hid (∀ x ∈ x1, x.spots.length ≤ 1048576) := fun x hx => by
    rw [← Hx1.out] at hx
    obtain ⟨p, hp, rfl⟩ := List.mem_map.1 hx
    have h := (Q2.out.resolve_left y2).2.2.2 p hp
    rw [← (G1.out p hp).1.1.len] at h
    exact h
  have fa0 : w2.cell? ⟨w.heap.size, 0, none⟩ = some (.int .i64 m0.rows) := (tb2.cell (p := ⟨w.heap.size, 0, none⟩) (by simp)).trans (HOb.out.cell 0)
  have fa1 : w2.cell? ⟨w.heap.size, 1, none⟩ = some (.int .i64 m0.columns) := (tb2.cell (p := ⟨w.heap.size, 1, none⟩) (by simp)).trans (HOb.out.cell 1)
  have fa2 : w2.cell? ⟨w.heap.size, 2, none⟩ = some (.int .i64 m0.size) := (tb2.cell (p := ⟨w.heap.size, 2, none⟩) (by simp)).trans (HOb.out.cell 2)
  have fa3 : w2.cell? ⟨w.heap.size, 3, none⟩ = some (.slice m0.heightsA m0.heightsN m0.heightsC) := (tb2.cell (p := ⟨w.heap.size, 3, none⟩) (by simp)).trans (HOb.out.cell 3)
  go_wp2_with fail
  clear fa0 fa1 fa2 fa3
  refine (toGrid_any m0 _ (MI.out.below t2) l1).mono ?_
  rintro e w3 ⟨p3, rfl, hv3, o3, b3⟩
  have t3 : Below w.heap.size w w3 := t2.trans (b3.mono t2.size)
  have tb3 : Below (w.alloc (.cells #[.int .i64 m0.rows, .int .i64 m0.columns, .int .i64 m0.size, .slice m0.heightsA m0.heightsN m0.heightsC] 36)).heap.size (w.alloc (.cells #[.int .i64 m0.rows, .int .i64 m0.columns, .int .i64 m0.size, .slice m0.heightsA m0.heightsN m0.heightsC] 36)) w3 := tb2.trans (b3.mono tb2.size)
  have z3 : Hid (w2.heap.size ≤ w3.heap.size) := b3.size
  have HV3 := Lib.hid hv3
  clear hv3
  have lo3 := Lib.hid o3.lt
  go_wp2_with fail
  refine (toAssetS_any _ _ _ x1 _ (S1.below t3) l2 inn1.out).mono ?_
  rintro e w4 ⟨v4, rfl, o4, b4⟩
  have t4 : Below w.heap.size w w4 := t3.trans (b4.mono t3.size)
  have tb4 : Below (w.alloc (.cells #[.int .i64 m0.rows, .int .i64 m0.columns, .int .i64 m0.size, .slice m0.heightsA m0.heightsN m0.heightsC] 36)).heap.size (w.alloc (.cells #[.int .i64 m0.rows, .int .i64 m0.columns, .int .i64 m0.size, .slice m0.heightsA m0.heightsN m0.heightsC] 36)) w4 := tb3.trans (b4.mono tb3.size)
  have z4 : Hid (w3.heap.size ≤ w4.heap.size) := b4.size
  have o3_4 := o3.below' b4
  obtain ⟨A_4, c_4, rfl, hc4, hm4, u4⟩ := o4.slice
  clear u4
  go_wp2_with fail
  refine (toInt64S_any _ _ _ _ _ (s2.below t4) (by omega)).mono ?_
  rintro e w5 ⟨v5, rfl, o5, b5⟩
  have t5 : Below w.heap.size w w5 := t4.trans (b5.mono t4.size)
  have tb5 : Below (w.alloc (.cells #[.int .i64 m0.rows, .int .i64 m0.columns, .int .i64 m0.size, .slice m0.heightsA m0.heightsN m0.heightsC] 36)).heap.size (w.alloc (.cells #[.int .i64 m0.rows, .int .i64 m0.columns, .int .i64 m0.size, .slice m0.heightsA m0.heightsN m0.heightsC] 36)) w5 := tb4.trans (b5.mono tb4.size)
  have z5 : Hid (w4.heap.size ≤ w5.heap.size) := b5.size
  have o3_5 := o3_4.below' b5
  have o4_5 := o4.below' b5
  have lo5 := Lib.hid o5.lt
  obtain ⟨A_5, c_5, rfl, hc5, hm5, u5⟩ := o5.slice i64cells_len
  clear u5
  go_wp2_with fail
  refine (specBestDam_any p3 _ _ _ x1 _ _ _ x2 a3 a4 _ (GridR.in_of o3_5) o4_5.sl GG1.out (o5.sl i64cells_len)).mono ?_
  rintro e w6 ⟨he, b6⟩
  rw [HV3.out] at he
  subst he
  have t6 : Below w.heap.size w w6 := t5.trans (b6.mono t5.size)
  have tb6 : Below (w.alloc (.cells #[.int .i64 m0.rows, .int .i64 m0.columns, .int .i64 m0.size, .slice m0.heightsA m0.heightsN m0.heightsC] 36)).heap.size (w.alloc (.cells #[.int .i64 m0.rows, .int .i64 m0.columns, .int .i64 m0.size, .slice m0.heightsA m0.heightsN m0.heightsC] 36)) w6 := tb5.trans (b6.mono tb5.size)
  have z6 : Hid (w5.heap.size ≤ w6.heap.size) := b6.size
  have o3_6 := o3_5.below' b6
  have o4_6 := o4_5.below' b6
  have o5_6 := o5.below' b6
  have fa0 : w6.cell? ⟨w.heap.size, 0, none⟩ = some (.int .i64 m0.rows) := (tb6.cell (p := ⟨w.heap.size, 0, none⟩) (by simp)).trans (HOb.out.cell 0)
  have fa1 : w6.cell? ⟨w.heap.size, 1, none⟩ = some (.int .i64 m0.columns) := (tb6.cell (p := ⟨w.heap.size, 1, none⟩) (by simp)).trans (HOb.out.cell 1)
  have fa2 : w6.cell? ⟨w.heap.size, 2, none⟩ = some (.int .i64 m0.size) := (tb6.cell (p := ⟨w.heap.size, 2, none⟩) (by simp)).trans (HOb.out.cell 2)
  have fa3 : w6.cell? ⟨w.heap.size, 3, none⟩ = some (.slice m0.heightsA m0.heightsN m0.heightsC) := (tb6.cell (p := ⟨w.heap.size, 3, none⟩) (by simp)).trans (HOb.out.cell 3)
  go_wp2_with fail
  clear fa0 fa1 fa2 fa3
  refine (toGrid_any m0 _ (MI.out.below t6) l1).mono ?_
  rintro e w7 ⟨p7, rfl, hv7, o7, b7⟩
  have t7 : Below w.heap.size w w7 := t6.trans (b7.mono t6.size)
  have tb7 : Below (w.alloc (.cells #[.int .i64 m0.rows, .int .i64 m0.columns, .int .i64 m0.size, .slice m0.heightsA m0.heightsN m0.heightsC] 36)).heap.size (w.alloc (.cells #[.int .i64 m0.rows, .int .i64 m0.columns, .int .i64 m0.size, .slice m0.heightsA m0.heightsN m0.heightsC] 36)) w7 := tb6.trans (b7.mono tb6.size)
  have z7 : Hid (w6.heap.size ≤ w7.heap.size) := b7.size
  have HV7 := Lib.hid hv7
  clear hv7
  have lo7 := Lib.hid o7.lt
  have bX : Below w7.heap.size w7 (w7.alloc (.cells #[.int .i64 p7.rows, .int .i64 p7.columns, .int .i64 p7.size, .slice p7.heightsA p7.heightsN p7.heightsC] 26)) := (Below.refl _ _).alloc (Nat.le_refl _) _
  have HOx := Lib.hid (Own.new w7 26 #[.int .i64 p7.rows, .int .i64 p7.columns, .int .i64 p7.size, .slice p7.heightsA p7.heightsN p7.heightsC])
  have tX : Below w.heap.size w (w7.alloc (.cells #[.int .i64 p7.rows, .int .i64 p7.columns, .int .i64 p7.size, .slice p7.heightsA p7.heightsN p7.heightsC] 26)) := t7.trans (bX.mono t7.size)
  have tbX : Below (w.alloc (.cells #[.int .i64 m0.rows, .int .i64 m0.columns, .int .i64 m0.size, .slice m0.heightsA m0.heightsN m0.heightsC] 36)).heap.size (w.alloc (.cells #[.int .i64 m0.rows, .int .i64 m0.columns, .int .i64 m0.size, .slice m0.heightsA m0.heightsN m0.heightsC] 36)) (w7.alloc (.cells #[.int .i64 p7.rows, .int .i64 p7.columns, .int .i64 p7.size, .slice p7.heightsA p7.heightsN p7.heightsC] 26)) := tb7.trans (bX.mono tb7.size)
  have o7_X := o7.below' bX
  go_wp2_with fail
  refine (toAssetS_any _ _ _ x1 _ (S1.below tX) l2 inn1.out).mono ?_
  rintro e w8 ⟨v8, rfl, o8, b8⟩
  have t8 : Below w.heap.size w w8 := tX.trans (b8.mono tX.size)
  have tb8 : Below (w.alloc (.cells #[.int .i64 m0.rows, .int .i64 m0.columns, .int .i64 m0.size, .slice m0.heightsA m0.heightsN m0.heightsC] 36)).heap.size (w.alloc (.cells #[.int .i64 m0.rows, .int .i64 m0.columns, .int .i64 m0.size, .slice m0.heightsA m0.heightsN m0.heightsC] 36)) w8 := tbX.trans (b8.mono tbX.size)
  have tx8 : Below (w7.alloc (.cells #[.int .i64 p7.rows, .int .i64 p7.columns, .int .i64 p7.size, .slice p7.heightsA p7.heightsN p7.heightsC] 26)).heap.size (w7.alloc (.cells #[.int .i64 p7.rows, .int .i64 p7.columns, .int .i64 p7.size, .slice p7.heightsA p7.heightsN p7.heightsC] 26)) w8 := (Below.refl (w7.alloc (.cells #[.int .i64 p7.rows, .int .i64 p7.columns, .int .i64 p7.size, .slice p7.heightsA p7.heightsN p7.heightsC] 26)).heap.size (w7.alloc (.cells #[.int .i64 p7.rows, .int .i64 p7.columns, .int .i64 p7.size, .slice p7.heightsA p7.heightsN p7.heightsC] 26))).trans (b8.mono (Below.refl (w7.alloc (.cells #[.int .i64 p7.rows, .int .i64 p7.columns, .int .i64 p7.size, .slice p7.heightsA p7.heightsN p7.heightsC] 26)).heap.size (w7.alloc (.cells #[.int .i64 p7.rows, .int .i64 p7.columns, .int .i64 p7.size, .slice p7.heightsA p7.heightsN p7.heightsC] 26))).size)
  have z8 : Hid (w7.heap.size ≤ w8.heap.size) := Nat.le_trans bX.size b8.size
  have o7_8 := o7_X.below' b8
  obtain ⟨A_8, c_8, rfl, hc8, hm8, u8⟩ := o8.slice
  clear u8
  go_wp2_with fail
  refine (toInt64S_any _ _ _ _ _ (s2.below t8) (by omega)).mono ?_
  rintro e w9 ⟨v9, rfl, o9, b9⟩
  have t9 : Below w.heap.size w w9 := t8.trans (b9.mono t8.size)
  have tb9 : Below (w.alloc (.cells #[.int .i64 m0.rows, .int .i64 m0.columns, .int .i64 m0.size, .slice m0.heightsA m0.heightsN m0.heightsC] 36)).heap.size (w.alloc (.cells #[.int .i64 m0.rows, .int .i64 m0.columns, .int .i64 m0.size, .slice m0.heightsA m0.heightsN m0.heightsC] 36)) w9 := tb8.trans (b9.mono tb8.size)
  have tx9 : Below (w7.alloc (.cells #[.int .i64 p7.rows, .int .i64 p7.columns, .int .i64 p7.size, .slice p7.heightsA p7.heightsN p7.heightsC] 26)).heap.size (w7.alloc (.cells #[.int .i64 p7.rows, .int .i64 p7.columns, .int .i64 p7.size, .slice p7.heightsA p7.heightsN p7.heightsC] 26)) w9 := tx8.trans (b9.mono tx8.size)
  have z9 : Hid (w8.heap.size ≤ w9.heap.size) := b9.size
  have o7_9 := o7_8.below' b9
  have o8_9 := o8.below' b9
  have lo9 := Lib.hid o9.lt
  obtain ⟨A_9, c_9, rfl, hc9, hm9, u9⟩ := o9.slice i64cells_len
  clear u9
  have fx0 : w9.cell? ⟨w7.heap.size, 0, none⟩ = some (.int .i64 p7.rows) := (tx9.cell (p := ⟨w7.heap.size, 0, none⟩) (by simp)).trans (HOx.out.cell 0)
  have fx1 : w9.cell? ⟨w7.heap.size, 1, none⟩ = some (.int .i64 p7.columns) := (tx9.cell (p := ⟨w7.heap.size, 1, none⟩) (by simp)).trans (HOx.out.cell 1)
  have fx2 : w9.cell? ⟨w7.heap.size, 2, none⟩ = some (.int .i64 p7.size) := (tx9.cell (p := ⟨w7.heap.size, 2, none⟩) (by simp)).trans (HOx.out.cell 2)
  have fx3 : w9.cell? ⟨w7.heap.size, 3, none⟩ = some (.slice p7.heightsA p7.heightsN p7.heightsC) := (tx9.cell (p := ⟨w7.heap.size, 3, none⟩) (by simp)).trans (HOx.out.cell 3)
  go_wp2_with fail
  clear fx0 fx1 fx2 fx3
  refine (implBestDam_any p7 _ _ _ x1 _ _ _ x2 a3 a4 _ (GridR.in_of o7_9) o8_9.sl GG1.out (o9.sl i64cells_len)).mono ?_
  rintro e w10 ⟨he, b10⟩
  rw [HV7.out] at he
  subst he
  have t10 : Below w.heap.size w w10 := t9.trans (b10.mono t9.size)
  have tb10 : Below (w.alloc (.cells #[.int .i64 m0.rows, .int .i64 m0.columns, .int .i64 m0.size, .slice m0.heightsA m0.heightsN m0.heightsC] 36)).heap.size (w.alloc (.cells #[.int .i64 m0.rows, .int .i64 m0.columns, .int .i64 m0.size, .slice m0.heightsA m0.heightsN m0.heightsC] 36)) w10 := tb9.trans (b10.mono tb9.size)
  have tx10 : Below (w7.alloc (.cells #[.int .i64 p7.rows, .int .i64 p7.columns, .int .i64 p7.size, .slice p7.heightsA p7.heightsN p7.heightsC] 26)).heap.size (w7.alloc (.cells #[.int .i64 p7.rows, .int .i64 p7.columns, .int .i64 p7.size, .slice p7.heightsA p7.heightsN p7.heightsC] 26)) w10 := tx9.trans (b10.mono tx9.size)
  have z10 : Hid (w9.heap.size ≤ w10.heap.size) := b10.size
  have o7_10 := o7_9.below' b10
  have o8_10 := o8_9.below' b10
  have o9_10 := o9.below' b10
  have fa0 : w10.cell? ⟨w.heap.size, 0, none⟩ = some (.int .i64 m0.rows) := (tb10.cell (p := ⟨w.heap.size, 0, none⟩) (by simp)).trans (HOb.out.cell 0)
  have fa1 : w10.cell? ⟨w.heap.size, 1, none⟩ = some (.int .i64 m0.columns) := (tb10.cell (p := ⟨w.heap.size, 1, none⟩) (by simp)).trans (HOb.out.cell 1)
  have fa2 : w10.cell? ⟨w.heap.size, 2, none⟩ = some (.int .i64 m0.size) := (tb10.cell (p := ⟨w.heap.size, 2, none⟩) (by simp)).trans (HOb.out.cell 2)
  have fa3 : w10.cell? ⟨w.heap.size, 3, none⟩ = some (.slice m0.heightsA m0.heightsN m0.heightsC) := (tb10.cell (p := ⟨w.heap.size, 3, none⟩) (by simp)).trans (HOb.out.cell 3)
  have fx0 : w10.cell? ⟨w7.heap.size, 0, none⟩ = some (.int .i64 p7.rows) := (tx10.cell (p := ⟨w7.heap.size, 0, none⟩) (by simp)).trans (HOx.out.cell 0)
  have fx1 : w10.cell? ⟨w7.heap.size, 1, none⟩ = some (.int .i64 p7.columns) := (tx10.cell (p := ⟨w7.heap.size, 1, none⟩) (by simp)).trans (HOx.out.cell 1)
  have fx2 : w10.cell? ⟨w7.heap.size, 2, none⟩ = some (.int .i64 p7.size) := (tx10.cell (p := ⟨w7.heap.size, 2, none⟩) (by simp)).trans (HOx.out.cell 2)
  have fx3 : w10.cell? ⟨w7.heap.size, 3, none⟩ = some (.slice p7.heightsA p7.heightsN p7.heightsC) := (tx10.cell (p := ⟨w7.heap.size, 3, none⟩) (by simp)).trans (HOx.out.cell 3)
  have mX : m0.In w10 := MI.out.below t10
  have pX : p7.In w10 := GridR.in_of o7_10
  have MX := Lib.hid mX
  have PX := Lib.hid pX
  clear mX pX
  have saX : w.heap.size < w10.heap.size := Nat.lt_of_lt_of_le (by simp) tb10.size
  have sxX : w7.heap.size < w10.heap.size := Nat.lt_of_lt_of_le (by simp) tx10.size
  have HS : ∀ w', Below w10.heap.size w10 w' → w'.cell? ⟨w.heap.size, 0, none⟩ = some (.int .i64 m0.rows) ∧ w'.cell? ⟨w.heap.size, 1, none⟩ = some (.int .i64 m0.columns) ∧ w'.cell? ⟨w.heap.size, 2, none⟩ = some (.int .i64 m0.size) ∧ w'.cell? ⟨w.heap.size, 3, none⟩ = some (.slice m0.heightsA m0.heightsN m0.heightsC) ∧ w'.cell? ⟨w7.heap.size, 0, none⟩ = some (.int .i64 p7.rows) ∧ w'.cell? ⟨w7.heap.size, 1, none⟩ = some (.int .i64 p7.columns) ∧ w'.cell? ⟨w7.heap.size, 2, none⟩ = some (.int .i64 p7.size) ∧ w'.cell? ⟨w7.heap.size, 3, none⟩ = some (.slice p7.heightsA p7.heightsN p7.heightsC) ∧ Below w10.heap.size w10 w' := fun w' h => ⟨(h.cell (p := ⟨w.heap.size, 0, none⟩) saX).trans fa0, (h.cell (p := ⟨w.heap.size, 1, none⟩) saX).trans fa1, (h.cell (p := ⟨w.heap.size, 2, none⟩) saX).trans fa2, (h.cell (p := ⟨w.heap.size, 3, none⟩) saX).trans fa3, (h.cell (p := ⟨w7.heap.size, 0, none⟩) sxX).trans fx0, (h.cell (p := ⟨w7.heap.size, 1, none⟩) sxX).trans fx1, (h.cell (p := ⟨w7.heap.size, 2, none⟩) sxX).trans fx2, (h.cell (p := ⟨w7.heap.size, 3, none⟩) sxX).trans fx3, h⟩
  go_wp2_with fail
  clear fa0 fa1 fa2 fa3 fx0 fx1 fx2 fx3
  go_region_held3 (fun w' => w'.cell? ⟨w.heap.size, 0, none⟩ = some (.int .i64 m0.rows) ∧ w'.cell? ⟨w.heap.size, 1, none⟩ = some (.int .i64 m0.columns) ∧ w'.cell? ⟨w.heap.size, 2, none⟩ = some (.int .i64 m0.size) ∧ w'.cell? ⟨w.heap.size, 3, none⟩ = some (.slice m0.heightsA m0.heightsN m0.heightsC) ∧ w'.cell? ⟨w7.heap.size, 0, none⟩ = some (.int .i64 p7.rows) ∧ w'.cell? ⟨w7.heap.size, 1, none⟩ = some (.int .i64 p7.columns) ∧ w'.cell? ⟨w7.heap.size, 2, none⟩ = some (.int .i64 p7.size) ∧ w'.cell? ⟨w7.heap.size, 3, none⟩ = some (.slice p7.heightsA p7.heightsN p7.heightsC) ∧ Below w10.heap.size w10 w') (first | exact HS _ (Below.refl _ _) | exact HS _ (Below.drew (Below.refl _ _)) | exact HS _ hBv | exact HS _ (Below.drew hBv) | exact HS _ hBw | exact HS _ (Below.drew hBw)) (first | (go_at_call 20; refine (toGrid_any m0 _ (MX.out.below (‹_ ∧ _ ∧ _ ∧ _ ∧ _ ∧ _ ∧ _ ∧ _ ∧ Below w10.heap.size w10 _›).2.2.2.2.2.2.2.2) l1).mono ?_; rintro e wq ⟨q, rfl, hq, oq, hbq⟩; have hBw := (‹_ ∧ _ ∧ _ ∧ _ ∧ _ ∧ _ ∧ _ ∧ _ ∧ Below w10.heap.size w10 _›).2.2.2.2.2.2.2.2.trans (hbq.mono (‹_ ∧ _ ∧ _ ∧ _ ∧ _ ∧ _ ∧ _ ∧ _ ∧ Below w10.heap.size w10 _›).2.2.2.2.2.2.2.2.size); have hqi : q.In wq := GridR.in_of oq) | (go_at_call 24; refine (eqGrid_any p7 q _ (PX.out.below (‹_ ∧ _ ∧ _ ∧ _ ∧ _ ∧ _ ∧ _ ∧ _ ∧ Below w10.heap.size w10 _›).2.2.2.2.2.2.2.2) (by first | exact hqi | exact hqi.below ((Below.refl _ _).drew))).mono ?_; rintro e w11 ⟨rfl, hbe⟩; have hBv := (‹_ ∧ _ ∧ _ ∧ _ ∧ _ ∧ _ ∧ _ ∧ _ ∧ Below w10.heap.size w10 _›).2.2.2.2.2.2.2.2.trans (hbe.mono (‹_ ∧ _ ∧ _ ∧ _ ∧ _ ∧ _ ∧ _ ∧ _ ∧ Below w10.heap.size w10 _›).2.2.2.2.2.2.2.2.size); rw [HV7.out, hq, Grid.eqB_self]))
  clear HS
  have b11 := hBv
  have t11 : Below w.heap.size w w11 := t10.trans (b11.mono t10.size)
  have tb11 : Below (w.alloc (.cells #[.int .i64 m0.rows, .int .i64 m0.columns, .int .i64 m0.size, .slice m0.heightsA m0.heightsN m0.heightsC] 36)).heap.size (w.alloc (.cells #[.int .i64 m0.rows, .int .i64 m0.columns, .int .i64 m0.size, .slice m0.heightsA m0.heightsN m0.heightsC] 36)) w11 := tb10.trans (b11.mono tb10.size)
  have tx11 : Below (w7.alloc (.cells #[.int .i64 p7.rows, .int .i64 p7.columns, .int .i64 p7.size, .slice p7.heightsA p7.heightsN p7.heightsC] 26)).heap.size (w7.alloc (.cells #[.int .i64 p7.rows, .int .i64 p7.columns, .int .i64 p7.size, .slice p7.heightsA p7.heightsN p7.heightsC] 26)) w11 := tx10.trans (b11.mono tx10.size)
  have z11 : Hid (w10.heap.size ≤ w11.heap.size) := b11.size
  have o7_11 := o7_10.below' b11
  have o8_11 := o8_10.below' b11
  have o9_11 := o9_10.below' b11
  go_wp2_with fail
  refine (toAssetS_any _ _ _ x1 _ (S1.below t11) l2 inn1.out).mono ?_
  rintro e w12 ⟨v12, rfl, o12, b12⟩
  have t12 : Below w.heap.size w w12 := t11.trans (b12.mono t11.size)
  have tb12 : Below (w.alloc (.cells #[.int .i64 m0.rows, .int .i64 m0.columns, .int .i64 m0.size, .slice m0.heightsA m0.heightsN m0.heightsC] 36)).heap.size (w.alloc (.cells #[.int .i64 m0.rows, .int .i64 m0.columns, .int .i64 m0.size, .slice m0.heightsA m0.heightsN m0.heightsC] 36)) w12 := tb11.trans (b12.mono tb11.size)
  have tx12 : Below (w7.alloc (.cells #[.int .i64 p7.rows, .int .i64 p7.columns, .int .i64 p7.size, .slice p7.heightsA p7.heightsN p7.heightsC] 26)).heap.size (w7.alloc (.cells #[.int .i64 p7.rows, .int .i64 p7.columns, .int .i64 p7.size, .slice p7.heightsA p7.heightsN p7.heightsC] 26)) w12 := tx11.trans (b12.mono tx11.size)
  have z12 : Hid (w11.heap.size ≤ w12.heap.size) := b12.size
  have o7_12 := o7_11.below' b12
  have o8_12 := o8_11.below' b12
  have o9_12 := o9_11.below' b12
  obtain ⟨A_12, c_12, rfl, hc12, hm12, u12⟩ := o12.slice
  clear u12
  go_wp2_with fail
  refine (eqAssetS_any _ _ _ _ _ _ _ _ _ o8_12.sl o12.sl).mono ?_
  rintro e w13 ⟨rfl, b13⟩
  have t13 : Below w.heap.size w w13 := t12.trans (b13.mono t12.size)
  have tb13 : Below (w.alloc (.cells #[.int .i64 m0.rows, .int .i64 m0.columns, .int .i64 m0.size, .slice m0.heightsA m0.heightsN m0.heightsC] 36)).heap.size (w.alloc (.cells #[.int .i64 m0.rows, .int .i64 m0.columns, .int .i64 m0.size, .slice m0.heightsA m0.heightsN m0.heightsC] 36)) w13 := tb12.trans (b13.mono tb12.size)
  have tx13 : Below (w7.alloc (.cells #[.int .i64 p7.rows, .int .i64 p7.columns, .int .i64 p7.size, .slice p7.heightsA p7.heightsN p7.heightsC] 26)).heap.size (w7.alloc (.cells #[.int .i64 p7.rows, .int .i64 p7.columns, .int .i64 p7.size, .slice p7.heightsA p7.heightsN p7.heightsC] 26)) w13 := tx12.trans (b13.mono tx12.size)
  have z13 : Hid (w12.heap.size ≤ w13.heap.size) := b13.size
  have o7_13 := o7_12.below' b13
  have o8_13 := o8_12.below' b13
  have o9_13 := o9_12.below' b13
  have o12_13 := o12.below' b13
  go_wp2_with fail
  refine (toInt64S_any _ _ _ _ _ (s2.below t13) (by omega)).mono ?_
  rintro e w14 ⟨v14, rfl, o14, b14⟩
  have t14 : Below w.heap.size w w14 := t13.trans (b14.mono t13.size)
  have tb14 : Below (w.alloc (.cells #[.int .i64 m0.rows, .int .i64 m0.columns, .int .i64 m0.size, .slice m0.heightsA m0.heightsN m0.heightsC] 36)).heap.size (w.alloc (.cells #[.int .i64 m0.rows, .int .i64 m0.columns, .int .i64 m0.size, .slice m0.heightsA m0.heightsN m0.heightsC] 36)) w14 := tb13.trans (b14.mono tb13.size)
  have tx14 : Below (w7.alloc (.cells #[.int .i64 p7.rows, .int .i64 p7.columns, .int .i64 p7.size, .slice p7.heightsA p7.heightsN p7.heightsC] 26)).heap.size (w7.alloc (.cells #[.int .i64 p7.rows, .int .i64 p7.columns, .int .i64 p7.size, .slice p7.heightsA p7.heightsN p7.heightsC] 26)) w14 := tx13.trans (b14.mono tx13.size)
  have z14 : Hid (w13.heap.size ≤ w14.heap.size) := b14.size
  have o7_14 := o7_13.below' b14
  have o8_14 := o8_13.below' b14
  have o9_14 := o9_13.below' b14
  have lo14 := Lib.hid o14.lt
  obtain ⟨A_14, c_14, rfl, hc14, hm14, u14⟩ := o14.slice i64cells_len
  clear u14
  go_wp2_with fail
  refine (eqInt64S_any _ _ _ _ _ _ _ _ _ (o9_14.sl i64cells_len) (o14.sl i64cells_len)).mono ?_
  rintro e w15 ⟨rfl, b15⟩
  have t15 : Below w.heap.size w w15 := t14.trans (b15.mono t14.size)
  have tb15 : Below (w.alloc (.cells #[.int .i64 m0.rows, .int .i64 m0.columns, .int .i64 m0.size, .slice m0.heightsA m0.heightsN m0.heightsC] 36)).heap.size (w.alloc (.cells #[.int .i64 m0.rows, .int .i64 m0.columns, .int .i64 m0.size, .slice m0.heightsA m0.heightsN m0.heightsC] 36)) w15 := tb14.trans (b15.mono tb14.size)
  have tx15 : Below (w7.alloc (.cells #[.int .i64 p7.rows, .int .i64 p7.columns, .int .i64 p7.size, .slice p7.heightsA p7.heightsN p7.heightsC] 26)).heap.size (w7.alloc (.cells #[.int .i64 p7.rows, .int .i64 p7.columns, .int .i64 p7.size, .slice p7.heightsA p7.heightsN p7.heightsC] 26)) w15 := tx14.trans (b15.mono tx14.size)
  have z15 : Hid (w14.heap.size ≤ w15.heap.size) := b15.size
  have o7_15 := o7_14.below' b15
  have o8_15 := o8_14.below' b15
  have o9_15 := o9_14.below' b15
  have o14_15 := o14.below' b15
  go_wp2
  go_ret
  exact Ret.b rfl t15

end Go.Proofs.Ythlgfmdlecdchaa
