/- The walk of the law FnExactValidAssets: it returns true. -/
import Derived.Test.YtlgnclocdblbmaaAssets
import Derived.Deep.RegionHeld3
namespace Go.Proofs.Ytlgnclocdblbmaa
open Go.RowKit

set_option maxRecDepth 100000 in
set_option maxHeartbeats 1000000 in
theorem walk_FnExactValidAssets (m0 : GridR) (A1 : Option Addr) (n1 c1 : Nat) (p1 : List AssetR) (w : World) (mi0 : m0.In w) (mg0 : m0.val.Good) (s1 : SliceOf w 3 AssetR.cells A1 n1 p1) (g1 : ∀ x ∈ p1, x.In w ∧ x.val.Good) : Calls Try.prog 3 #[.agg #[.int .i64 m0.rows, .int .i64 m0.columns, .int .i64 m0.size, .slice m0.heightsA m0.heightsN m0.heightsC], .slice A1 n1 c1] w (Ret (.bool true) w) := by
  obtain ⟨x1, hx1⟩ : ∃ x, p1.map AssetR.val = x := ⟨_, rfl⟩
  have e1 := Asset.eqSB_self x1
  have ln1 := s1.le
  have hl1 := Lib.hid s1.len
  have S1 : Asset.Sl w A1 n1 x1 := ⟨p1, s1, fun p hp => (g1 p hp).1, hx1.symm⟩
  have Hx1 := Lib.hid hx1
  clear hx1
  have G1 := Lib.hid g1
  have GG1 : Hid (∀ x ∈ x1, x.Good) := fun x hx => by
    rw [← Hx1.out] at hx
    obtain ⟨p, hp, rfl⟩ := List.mem_map.1 hx
    exact (G1.out p hp).2
  clear g1
  have hBx : Below w.heap.size w (w.alloc (.cells #[.int .i64 m0.rows, .int .i64 m0.columns, .int .i64 m0.size, .slice m0.heightsA m0.heightsN m0.heightsC] 24)) := (Below.refl _ _).alloc (Nat.le_refl _) _
  have HOb := Lib.hid (Own.new w 24 #[.int .i64 m0.rows, .int .i64 m0.columns, .int .i64 m0.size, .slice m0.heightsA m0.heightsN m0.heightsC])
  have MI := Lib.hid mi0
  have MG := Lib.hid mg0
  have ln0 := mi0.1.le
  have hl0 := Lib.hid mi0.1.len
  clear mi0 mg0
  go_enter Try.func3, Try.ntmps3
  go_wp2_with fail
  refine (szGrid_any m0 _ _ (MI.out.below hBx) MG.out (by omega) (by omega)).mono ?_
  rintro e w1 ⟨v, rfl, ⟨r1, rfl, q1⟩, b1⟩
  have t1 : Below w.heap.size w w1 := hBx.trans (b1.mono hBx.size)
  have tb1 : Below (w.alloc (.cells #[.int .i64 m0.rows, .int .i64 m0.columns, .int .i64 m0.size, .slice m0.heightsA m0.heightsN m0.heightsC] 24)).heap.size (w.alloc (.cells #[.int .i64 m0.rows, .int .i64 m0.columns, .int .i64 m0.size, .slice m0.heightsA m0.heightsN m0.heightsC] 24)) w1 := (Below.refl (w.alloc (.cells #[.int .i64 m0.rows, .int .i64 m0.columns, .int .i64 m0.size, .slice m0.heightsA m0.heightsN m0.heightsC] 24)).heap.size (w.alloc (.cells #[.int .i64 m0.rows, .int .i64 m0.columns, .int .i64 m0.size, .slice m0.heightsA m0.heightsN m0.heightsC] 24))).trans (b1.mono (Below.refl (w.alloc (.cells #[.int .i64 m0.rows, .int .i64 m0.columns, .int .i64 m0.size, .slice m0.heightsA m0.heightsN m0.heightsC] 24)).heap.size (w.alloc (.cells #[.int .i64 m0.rows, .int .i64 m0.columns, .int .i64 m0.size, .slice m0.heightsA m0.heightsN m0.heightsC] 24))).size)
  have z1 : Hid (w.heap.size ≤ w1.heap.size) := t1.size
  have Q1 := Lib.hid q1
  have r1c : r1 < 0 ∨ 0 ≤ r1 ∧ r1 ≤ 1048576 ∧ (m0.heightsN : Int) ≤ 1048576 := by rcases q1 with h | h <;> omega
  clear q1
  by_cases y1 : r1 < 0
  · go_wp2
    go_ret
    exact Ret.b rfl t1
  have l1 : m0.heightsN ≤ 1048576 := by omega
  go_wp2_with fail
  refine (szAssetS_any _ _ _ p1 _ _ (s1.below t1) (fun p hp => (G1.out p hp).1.below t1) (fun p hp => (G1.out p hp).2) (by omega) (by omega)).mono ?_
  rintro e w2 ⟨v, rfl, ⟨r2, rfl, q2⟩, b2⟩
  have t2 : Below w.heap.size w w2 := t1.trans (b2.mono t1.size)
  have tb2 : Below (w.alloc (.cells #[.int .i64 m0.rows, .int .i64 m0.columns, .int .i64 m0.size, .slice m0.heightsA m0.heightsN m0.heightsC] 24)).heap.size (w.alloc (.cells #[.int .i64 m0.rows, .int .i64 m0.columns, .int .i64 m0.size, .slice m0.heightsA m0.heightsN m0.heightsC] 24)) w2 := tb1.trans (b2.mono tb1.size)
  have z2 : Hid (w1.heap.size ≤ w2.heap.size) := b2.size
  have Q2 := Lib.hid q2
  have r2c : r2 < 0 ∨ 0 ≤ r2 ∧ r2 ≤ r1 ∧ (n1 : Int) ≤ 1048576 := by rcases q2 with h | h <;> omega
  clear q2
  by_cases y2 : r2 < 0
  · go_wp2
    go_ret
    exact Ret.b rfl t2
  have l2 : n1 ≤ 1048576 := by omega
  have inn1 : Hid (∀ x ∈ x1, x.spots.length ≤ 1048576) := fun x hx => by
    rw [← Hx1.out] at hx
    obtain ⟨p, hp, rfl⟩ := List.mem_map.1 hx
    have h := (Q2.out.resolve_left y2).2.2.2 p hp
    rw [← (G1.out p hp).1.1.len] at h
    exact h
  have fa0 : w2.cell? ⟨w.heap.size, 0, none⟩ = some (.int .i64 m0.rows) := (tb2.cell (p := ⟨w.heap.size, 0, none⟩) (by simp)).trans (HOb.out.cell 0)
  have fa1 : w2.cell? ⟨w.heap.size, 1, none⟩ = some (.int .i64 m0.columns) := (tb2.cell (p := ⟨w.heap.size, 1, none⟩) (by simp)).trans (HOb.out.cell 1)
  have fa2 : w2.cell? ⟨w.heap.size, 2, none⟩ = some (.int .i64 m0.size) := (tb2.cell (p := ⟨w.heap.size, 2, none⟩) (by simp)).trans (HOb.out.cell 2)
  have fa3 : w2.cell? ⟨w.heap.size, 3, none⟩ = some (.slice m0.heightsA m0.heightsN m0.heightsC) := (tb2.cell (p := ⟨w.heap.size, 3, none⟩) (by simp)).trans (HOb.out.cell 3)
  go_wp2_with fail
  clear fa0 fa1 fa2 fa3
  refine (toGrid_any m0 _ (MI.out.below t2) l1).mono ?_
  rintro e w3 ⟨p3, rfl, hv3, o3, b3⟩
  have t3 : Below w.heap.size w w3 := t2.trans (b3.mono t2.size)
  have tb3 : Below (w.alloc (.cells #[.int .i64 m0.rows, .int .i64 m0.columns, .int .i64 m0.size, .slice m0.heightsA m0.heightsN m0.heightsC] 24)).heap.size (w.alloc (.cells #[.int .i64 m0.rows, .int .i64 m0.columns, .int .i64 m0.size, .slice m0.heightsA m0.heightsN m0.heightsC] 24)) w3 := tb2.trans (b3.mono tb2.size)
  have z3 : Hid (w2.heap.size ≤ w3.heap.size) := b3.size
  have HV3 := Lib.hid hv3
  clear hv3
  have lo3 := Lib.hid o3.lt
  go_wp2_with fail
  refine (toAssetS_any _ _ _ x1 _ (S1.below t3) l2 inn1.out).mono ?_
  rintro e w4 ⟨v4, rfl, o4, b4⟩
  have t4 : Below w.heap.size w w4 := t3.trans (b4.mono t3.size)
  have tb4 : Below (w.alloc (.cells #[.int .i64 m0.rows, .int .i64 m0.columns, .int .i64 m0.size, .slice m0.heightsA m0.heightsN m0.heightsC] 24)).heap.size (w.alloc (.cells #[.int .i64 m0.rows, .int .i64 m0.columns, .int .i64 m0.size, .slice m0.heightsA m0.heightsN m0.heightsC] 24)) w4 := tb3.trans (b4.mono tb3.size)
  have z4 : Hid (w3.heap.size ≤ w4.heap.size) := b4.size
  have o3_4 := o3.below' b4
  obtain ⟨A_4, c_4, rfl, hc4, hm4, u4⟩ := o4.slice
  clear u4
  go_wp2_with fail
  refine (specValidAssets_any p3 _ _ _ x1 _ (GridR.in_of o3_4) o4.sl GG1.out).mono ?_
  rintro e w5 ⟨he, b5⟩
  rw [HV3.out] at he
  subst he
  have t5 : Below w.heap.size w w5 := t4.trans (b5.mono t4.size)
  have tb5 : Below (w.alloc (.cells #[.int .i64 m0.rows, .int .i64 m0.columns, .int .i64 m0.size, .slice m0.heightsA m0.heightsN m0.heightsC] 24)).heap.size (w.alloc (.cells #[.int .i64 m0.rows, .int .i64 m0.columns, .int .i64 m0.size, .slice m0.heightsA m0.heightsN m0.heightsC] 24)) w5 := tb4.trans (b5.mono tb4.size)
  have z5 : Hid (w4.heap.size ≤ w5.heap.size) := b5.size
  have o3_5 := o3_4.below' b5
  have o4_5 := o4.below' b5
  have fa0 : w5.cell? ⟨w.heap.size, 0, none⟩ = some (.int .i64 m0.rows) := (tb5.cell (p := ⟨w.heap.size, 0, none⟩) (by simp)).trans (HOb.out.cell 0)
  have fa1 : w5.cell? ⟨w.heap.size, 1, none⟩ = some (.int .i64 m0.columns) := (tb5.cell (p := ⟨w.heap.size, 1, none⟩) (by simp)).trans (HOb.out.cell 1)
  have fa2 : w5.cell? ⟨w.heap.size, 2, none⟩ = some (.int .i64 m0.size) := (tb5.cell (p := ⟨w.heap.size, 2, none⟩) (by simp)).trans (HOb.out.cell 2)
  have fa3 : w5.cell? ⟨w.heap.size, 3, none⟩ = some (.slice m0.heightsA m0.heightsN m0.heightsC) := (tb5.cell (p := ⟨w.heap.size, 3, none⟩) (by simp)).trans (HOb.out.cell 3)
  go_wp2_with fail
  clear fa0 fa1 fa2 fa3
  refine (toGrid_any m0 _ (MI.out.below t5) l1).mono ?_
  rintro e w6 ⟨p6, rfl, hv6, o6, b6⟩
  have t6 : Below w.heap.size w w6 := t5.trans (b6.mono t5.size)
  have tb6 : Below (w.alloc (.cells #[.int .i64 m0.rows, .int .i64 m0.columns, .int .i64 m0.size, .slice m0.heightsA m0.heightsN m0.heightsC] 24)).heap.size (w.alloc (.cells #[.int .i64 m0.rows, .int .i64 m0.columns, .int .i64 m0.size, .slice m0.heightsA m0.heightsN m0.heightsC] 24)) w6 := tb5.trans (b6.mono tb5.size)
  have z6 : Hid (w5.heap.size ≤ w6.heap.size) := b6.size
  have HV6 := Lib.hid hv6
  clear hv6
  have lo6 := Lib.hid o6.lt
  have bX : Below w6.heap.size w6 (w6.alloc (.cells #[.int .i64 p6.rows, .int .i64 p6.columns, .int .i64 p6.size, .slice p6.heightsA p6.heightsN p6.heightsC] 29)) := (Below.refl _ _).alloc (Nat.le_refl _) _
  have HOx := Lib.hid (Own.new w6 29 #[.int .i64 p6.rows, .int .i64 p6.columns, .int .i64 p6.size, .slice p6.heightsA p6.heightsN p6.heightsC])
  have tX : Below w.heap.size w (w6.alloc (.cells #[.int .i64 p6.rows, .int .i64 p6.columns, .int .i64 p6.size, .slice p6.heightsA p6.heightsN p6.heightsC] 29)) := t6.trans (bX.mono t6.size)
  have tbX : Below (w.alloc (.cells #[.int .i64 m0.rows, .int .i64 m0.columns, .int .i64 m0.size, .slice m0.heightsA m0.heightsN m0.heightsC] 24)).heap.size (w.alloc (.cells #[.int .i64 m0.rows, .int .i64 m0.columns, .int .i64 m0.size, .slice m0.heightsA m0.heightsN m0.heightsC] 24)) (w6.alloc (.cells #[.int .i64 p6.rows, .int .i64 p6.columns, .int .i64 p6.size, .slice p6.heightsA p6.heightsN p6.heightsC] 29)) := tb6.trans (bX.mono tb6.size)
  have o6_X := o6.below' bX
  go_wp2_with fail
  refine (toAssetS_any _ _ _ x1 _ (S1.below tX) l2 inn1.out).mono ?_
  rintro e w7 ⟨v7, rfl, o7, b7⟩
  have t7 : Below w.heap.size w w7 := tX.trans (b7.mono tX.size)
  have tb7 : Below (w.alloc (.cells #[.int .i64 m0.rows, .int .i64 m0.columns, .int .i64 m0.size, .slice m0.heightsA m0.heightsN m0.heightsC] 24)).heap.size (w.alloc (.cells #[.int .i64 m0.rows, .int .i64 m0.columns, .int .i64 m0.size, .slice m0.heightsA m0.heightsN m0.heightsC] 24)) w7 := tbX.trans (b7.mono tbX.size)
  have tx7 : Below (w6.alloc (.cells #[.int .i64 p6.rows, .int .i64 p6.columns, .int .i64 p6.size, .slice p6.heightsA p6.heightsN p6.heightsC] 29)).heap.size (w6.alloc (.cells #[.int .i64 p6.rows, .int .i64 p6.columns, .int .i64 p6.size, .slice p6.heightsA p6.heightsN p6.heightsC] 29)) w7 := (Below.refl (w6.alloc (.cells #[.int .i64 p6.rows, .int .i64 p6.columns, .int .i64 p6.size, .slice p6.heightsA p6.heightsN p6.heightsC] 29)).heap.size (w6.alloc (.cells #[.int .i64 p6.rows, .int .i64 p6.columns, .int .i64 p6.size, .slice p6.heightsA p6.heightsN p6.heightsC] 29))).trans (b7.mono (Below.refl (w6.alloc (.cells #[.int .i64 p6.rows, .int .i64 p6.columns, .int .i64 p6.size, .slice p6.heightsA p6.heightsN p6.heightsC] 29)).heap.size (w6.alloc (.cells #[.int .i64 p6.rows, .int .i64 p6.columns, .int .i64 p6.size, .slice p6.heightsA p6.heightsN p6.heightsC] 29))).size)
  have z7 : Hid (w6.heap.size ≤ w7.heap.size) := Nat.le_trans bX.size b7.size
  have o6_7 := o6_X.below' b7
  obtain ⟨A_7, c_7, rfl, hc7, hm7, u7⟩ := o7.slice
  clear u7
  have fx0 : w7.cell? ⟨w6.heap.size, 0, none⟩ = some (.int .i64 p6.rows) := (tx7.cell (p := ⟨w6.heap.size, 0, none⟩) (by simp)).trans (HOx.out.cell 0)
  have fx1 : w7.cell? ⟨w6.heap.size, 1, none⟩ = some (.int .i64 p6.columns) := (tx7.cell (p := ⟨w6.heap.size, 1, none⟩) (by simp)).trans (HOx.out.cell 1)
  have fx2 : w7.cell? ⟨w6.heap.size, 2, none⟩ = some (.int .i64 p6.size) := (tx7.cell (p := ⟨w6.heap.size, 2, none⟩) (by simp)).trans (HOx.out.cell 2)
  have fx3 : w7.cell? ⟨w6.heap.size, 3, none⟩ = some (.slice p6.heightsA p6.heightsN p6.heightsC) := (tx7.cell (p := ⟨w6.heap.size, 3, none⟩) (by simp)).trans (HOx.out.cell 3)
  go_wp2_with fail
  clear fx0 fx1 fx2 fx3
  refine (implValidAssets_any p6 _ _ _ x1 _ (GridR.in_of o6_7) o7.sl GG1.out).mono ?_
  rintro e w8 ⟨he, b8⟩
  rw [HV6.out] at he
  subst he
  have t8 : Below w.heap.size w w8 := t7.trans (b8.mono t7.size)
  have tb8 : Below (w.alloc (.cells #[.int .i64 m0.rows, .int .i64 m0.columns, .int .i64 m0.size, .slice m0.heightsA m0.heightsN m0.heightsC] 24)).heap.size (w.alloc (.cells #[.int .i64 m0.rows, .int .i64 m0.columns, .int .i64 m0.size, .slice m0.heightsA m0.heightsN m0.heightsC] 24)) w8 := tb7.trans (b8.mono tb7.size)
  have tx8 : Below (w6.alloc (.cells #[.int .i64 p6.rows, .int .i64 p6.columns, .int .i64 p6.size, .slice p6.heightsA p6.heightsN p6.heightsC] 29)).heap.size (w6.alloc (.cells #[.int .i64 p6.rows, .int .i64 p6.columns, .int .i64 p6.size, .slice p6.heightsA p6.heightsN p6.heightsC] 29)) w8 := tx7.trans (b8.mono tx7.size)
  have z8 : Hid (w7.heap.size ≤ w8.heap.size) := b8.size
  have o6_8 := o6_7.below' b8
  have o7_8 := o7.below' b8
  have fa0 : w8.cell? ⟨w.heap.size, 0, none⟩ = some (.int .i64 m0.rows) := (tb8.cell (p := ⟨w.heap.size, 0, none⟩) (by simp)).trans (HOb.out.cell 0)
  have fa1 : w8.cell? ⟨w.heap.size, 1, none⟩ = some (.int .i64 m0.columns) := (tb8.cell (p := ⟨w.heap.size, 1, none⟩) (by simp)).trans (HOb.out.cell 1)
  have fa2 : w8.cell? ⟨w.heap.size, 2, none⟩ = some (.int .i64 m0.size) := (tb8.cell (p := ⟨w.heap.size, 2, none⟩) (by simp)).trans (HOb.out.cell 2)
  have fa3 : w8.cell? ⟨w.heap.size, 3, none⟩ = some (.slice m0.heightsA m0.heightsN m0.heightsC) := (tb8.cell (p := ⟨w.heap.size, 3, none⟩) (by simp)).trans (HOb.out.cell 3)
  have fx0 : w8.cell? ⟨w6.heap.size, 0, none⟩ = some (.int .i64 p6.rows) := (tx8.cell (p := ⟨w6.heap.size, 0, none⟩) (by simp)).trans (HOx.out.cell 0)
  have fx1 : w8.cell? ⟨w6.heap.size, 1, none⟩ = some (.int .i64 p6.columns) := (tx8.cell (p := ⟨w6.heap.size, 1, none⟩) (by simp)).trans (HOx.out.cell 1)
  have fx2 : w8.cell? ⟨w6.heap.size, 2, none⟩ = some (.int .i64 p6.size) := (tx8.cell (p := ⟨w6.heap.size, 2, none⟩) (by simp)).trans (HOx.out.cell 2)
  have fx3 : w8.cell? ⟨w6.heap.size, 3, none⟩ = some (.slice p6.heightsA p6.heightsN p6.heightsC) := (tx8.cell (p := ⟨w6.heap.size, 3, none⟩) (by simp)).trans (HOx.out.cell 3)
  have mX : m0.In w8 := MI.out.below t8
  have pX : p6.In w8 := GridR.in_of o6_8
  have MX := Lib.hid mX
  have PX := Lib.hid pX
  clear mX pX
  have saX : w.heap.size < w8.heap.size := Nat.lt_of_lt_of_le (by simp) tb8.size
  have sxX : w6.heap.size < w8.heap.size := Nat.lt_of_lt_of_le (by simp) tx8.size
  have HS : ∀ w', Below w8.heap.size w8 w' → w'.cell? ⟨w.heap.size, 0, none⟩ = some (.int .i64 m0.rows) ∧ w'.cell? ⟨w.heap.size, 1, none⟩ = some (.int .i64 m0.columns) ∧ w'.cell? ⟨w.heap.size, 2, none⟩ = some (.int .i64 m0.size) ∧ w'.cell? ⟨w.heap.size, 3, none⟩ = some (.slice m0.heightsA m0.heightsN m0.heightsC) ∧ w'.cell? ⟨w6.heap.size, 0, none⟩ = some (.int .i64 p6.rows) ∧ w'.cell? ⟨w6.heap.size, 1, none⟩ = some (.int .i64 p6.columns) ∧ w'.cell? ⟨w6.heap.size, 2, none⟩ = some (.int .i64 p6.size) ∧ w'.cell? ⟨w6.heap.size, 3, none⟩ = some (.slice p6.heightsA p6.heightsN p6.heightsC) ∧ Below w8.heap.size w8 w' := fun w' h => ⟨(h.cell (p := ⟨w.heap.size, 0, none⟩) saX).trans fa0, (h.cell (p := ⟨w.heap.size, 1, none⟩) saX).trans fa1, (h.cell (p := ⟨w.heap.size, 2, none⟩) saX).trans fa2, (h.cell (p := ⟨w.heap.size, 3, none⟩) saX).trans fa3, (h.cell (p := ⟨w6.heap.size, 0, none⟩) sxX).trans fx0, (h.cell (p := ⟨w6.heap.size, 1, none⟩) sxX).trans fx1, (h.cell (p := ⟨w6.heap.size, 2, none⟩) sxX).trans fx2, (h.cell (p := ⟨w6.heap.size, 3, none⟩) sxX).trans fx3, h⟩
  go_wp2_with fail
  clear fa0 fa1 fa2 fa3 fx0 fx1 fx2 fx3
  go_region_held3 (fun w' => w'.cell? ⟨w.heap.size, 0, none⟩ = some (.int .i64 m0.rows) ∧ w'.cell? ⟨w.heap.size, 1, none⟩ = some (.int .i64 m0.columns) ∧ w'.cell? ⟨w.heap.size, 2, none⟩ = some (.int .i64 m0.size) ∧ w'.cell? ⟨w.heap.size, 3, none⟩ = some (.slice m0.heightsA m0.heightsN m0.heightsC) ∧ w'.cell? ⟨w6.heap.size, 0, none⟩ = some (.int .i64 p6.rows) ∧ w'.cell? ⟨w6.heap.size, 1, none⟩ = some (.int .i64 p6.columns) ∧ w'.cell? ⟨w6.heap.size, 2, none⟩ = some (.int .i64 p6.size) ∧ w'.cell? ⟨w6.heap.size, 3, none⟩ = some (.slice p6.heightsA p6.heightsN p6.heightsC) ∧ Below w8.heap.size w8 w') (first | exact HS _ (Below.refl _ _) | exact HS _ (Below.drew (Below.refl _ _)) | exact HS _ hBv | exact HS _ (Below.drew hBv) | exact HS _ hBw | exact HS _ (Below.drew hBw)) (first | (go_at_call 16; refine (toGrid_any m0 _ (MX.out.below (‹_ ∧ _ ∧ _ ∧ _ ∧ _ ∧ _ ∧ _ ∧ _ ∧ Below w8.heap.size w8 _›).2.2.2.2.2.2.2.2) l1).mono ?_; rintro e wq ⟨q, rfl, hq, oq, hbq⟩; have hBw := (‹_ ∧ _ ∧ _ ∧ _ ∧ _ ∧ _ ∧ _ ∧ _ ∧ Below w8.heap.size w8 _›).2.2.2.2.2.2.2.2.trans (hbq.mono (‹_ ∧ _ ∧ _ ∧ _ ∧ _ ∧ _ ∧ _ ∧ _ ∧ Below w8.heap.size w8 _›).2.2.2.2.2.2.2.2.size); have hqi : q.In wq := GridR.in_of oq) | (go_at_call 19; refine (eqGrid_any p6 q _ (PX.out.below (‹_ ∧ _ ∧ _ ∧ _ ∧ _ ∧ _ ∧ _ ∧ _ ∧ Below w8.heap.size w8 _›).2.2.2.2.2.2.2.2) (by first | exact hqi | exact hqi.below ((Below.refl _ _).drew))).mono ?_; rintro e w9 ⟨rfl, hbe⟩; have hBv := (‹_ ∧ _ ∧ _ ∧ _ ∧ _ ∧ _ ∧ _ ∧ _ ∧ Below w8.heap.size w8 _›).2.2.2.2.2.2.2.2.trans (hbe.mono (‹_ ∧ _ ∧ _ ∧ _ ∧ _ ∧ _ ∧ _ ∧ _ ∧ Below w8.heap.size w8 _›).2.2.2.2.2.2.2.2.size); rw [HV6.out, hq, Grid.eqB_self]))
  clear HS
  have b9 := hBv
  have t9 : Below w.heap.size w w9 := t8.trans (b9.mono t8.size)
  have tb9 : Below (w.alloc (.cells #[.int .i64 m0.rows, .int .i64 m0.columns, .int .i64 m0.size, .slice m0.heightsA m0.heightsN m0.heightsC] 24)).heap.size (w.alloc (.cells #[.int .i64 m0.rows, .int .i64 m0.columns, .int .i64 m0.size, .slice m0.heightsA m0.heightsN m0.heightsC] 24)) w9 := tb8.trans (b9.mono tb8.size)
  have tx9 : Below (w6.alloc (.cells #[.int .i64 p6.rows, .int .i64 p6.columns, .int .i64 p6.size, .slice p6.heightsA p6.heightsN p6.heightsC] 29)).heap.size (w6.alloc (.cells #[.int .i64 p6.rows, .int .i64 p6.columns, .int .i64 p6.size, .slice p6.heightsA p6.heightsN p6.heightsC] 29)) w9 := tx8.trans (b9.mono tx8.size)
  have z9 : Hid (w8.heap.size ≤ w9.heap.size) := b9.size
  have o6_9 := o6_8.below' b9
  have o7_9 := o7_8.below' b9
  go_wp2_with fail
  refine (toAssetS_any _ _ _ x1 _ (S1.below t9) l2 inn1.out).mono ?_
  rintro e w10 ⟨v10, rfl, o10, b10⟩
  have t10 : Below w.heap.size w w10 := t9.trans (b10.mono t9.size)
  have tb10 : Below (w.alloc (.cells #[.int .i64 m0.rows, .int .i64 m0.columns, .int .i64 m0.size, .slice m0.heightsA m0.heightsN m0.heightsC] 24)).heap.size (w.alloc (.cells #[.int .i64 m0.rows, .int .i64 m0.columns, .int .i64 m0.size, .slice m0.heightsA m0.heightsN m0.heightsC] 24)) w10 := tb9.trans (b10.mono tb9.size)
  have tx10 : Below (w6.alloc (.cells #[.int .i64 p6.rows, .int .i64 p6.columns, .int .i64 p6.size, .slice p6.heightsA p6.heightsN p6.heightsC] 29)).heap.size (w6.alloc (.cells #[.int .i64 p6.rows, .int .i64 p6.columns, .int .i64 p6.size, .slice p6.heightsA p6.heightsN p6.heightsC] 29)) w10 := tx9.trans (b10.mono tx9.size)
  have z10 : Hid (w9.heap.size ≤ w10.heap.size) := b10.size
  have o6_10 := o6_9.below' b10
  have o7_10 := o7_9.below' b10
  obtain ⟨A_10, c_10, rfl, hc10, hm10, u10⟩ := o10.slice
  clear u10
  go_wp2_with fail
  refine (eqAssetS_any _ _ _ _ _ _ _ _ _ o7_10.sl o10.sl).mono ?_
  rintro e w11 ⟨rfl, b11⟩
  have t11 : Below w.heap.size w w11 := t10.trans (b11.mono t10.size)
  have tb11 : Below (w.alloc (.cells #[.int .i64 m0.rows, .int .i64 m0.columns, .int .i64 m0.size, .slice m0.heightsA m0.heightsN m0.heightsC] 24)).heap.size (w.alloc (.cells #[.int .i64 m0.rows, .int .i64 m0.columns, .int .i64 m0.size, .slice m0.heightsA m0.heightsN m0.heightsC] 24)) w11 := tb10.trans (b11.mono tb10.size)
  have tx11 : Below (w6.alloc (.cells #[.int .i64 p6.rows, .int .i64 p6.columns, .int .i64 p6.size, .slice p6.heightsA p6.heightsN p6.heightsC] 29)).heap.size (w6.alloc (.cells #[.int .i64 p6.rows, .int .i64 p6.columns, .int .i64 p6.size, .slice p6.heightsA p6.heightsN p6.heightsC] 29)) w11 := tx10.trans (b11.mono tx10.size)
  have z11 : Hid (w10.heap.size ≤ w11.heap.size) := b11.size
  have o6_11 := o6_10.below' b11
  have o7_11 := o7_10.below' b11
  have o10_11 := o10.below' b11
  go_wp2
  go_ret
  exact Ret.b rfl t11

end Go.Proofs.Ytlgnclocdblbmaa
