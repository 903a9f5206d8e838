/- The walk of the law FnExactNeighboursOf: it returns true. -/
import Derived.Test.YtdpepdcbgocbcaaNear
import Derived.Test.YtdpepdcbgocbcaaMarkGrid
import Derived.Deep.RegionHeld3
namespace Go.Proofs.Ytdpepdcbgocbcaa
open Go.RowKit

set_option maxRecDepth 100000 in
set_option maxHeartbeats 1000000 in
theorem walk_FnExactNeighboursOf (m0 : GridR) (a1 : Int) (w : World) (mi0 : m0.In w) (mg0 : m0.val.Good) (_g1 : I64 a1) : Calls Try.prog 5 #[.agg #[.int .i64 m0.rows, .int .i64 m0.columns, .int .i64 m0.size, .slice m0.heightsA m0.heightsN m0.heightsC], .int .i64 a1] w (Ret (.bool true) w) := by
  have hBx : Below w.heap.size w (w.alloc (.cells #[.int .i64 m0.rows, .int .i64 m0.columns, .int .i64 m0.size, .slice m0.heightsA m0.heightsN m0.heightsC] 53)) := (Below.refl _ _).alloc (Nat.le_refl _) _
  have HOb := Lib.hid (Own.new w 53 #[.int .i64 m0.rows, .int .i64 m0.columns, .int .i64 m0.size, .slice m0.heightsA m0.heightsN m0.heightsC])
  have MI := Lib.hid mi0
  have MG := Lib.hid mg0
  have ln0 := mi0.1.le
  have hl0 := Lib.hid mi0.1.len
  clear mi0 mg0
  go_enter Try.func5, Try.ntmps5
  go_wp2_with fail
  refine (szGrid_any m0 _ _ (MI.out.below hBx) MG.out (by omega) (by omega)).mono ?_
  rintro e w1 ⟨v, rfl, ⟨r1, rfl, q1⟩, b1⟩
  have t1 : Below w.heap.size w w1 := hBx.trans (b1.mono hBx.size)
  have tb1 : Below (w.alloc (.cells #[.int .i64 m0.rows, .int .i64 m0.columns, .int .i64 m0.size, .slice m0.heightsA m0.heightsN m0.heightsC] 53)).heap.size (w.alloc (.cells #[.int .i64 m0.rows, .int .i64 m0.columns, .int .i64 m0.size, .slice m0.heightsA m0.heightsN m0.heightsC] 53)) w1 := (Below.refl (w.alloc (.cells #[.int .i64 m0.rows, .int .i64 m0.columns, .int .i64 m0.size, .slice m0.heightsA m0.heightsN m0.heightsC] 53)).heap.size (w.alloc (.cells #[.int .i64 m0.rows, .int .i64 m0.columns, .int .i64 m0.size, .slice m0.heightsA m0.heightsN m0.heightsC] 53))).trans (b1.mono (Below.refl (w.alloc (.cells #[.int .i64 m0.rows, .int .i64 m0.columns, .int .i64 m0.size, .slice m0.heightsA m0.heightsN m0.heightsC] 53)).heap.size (w.alloc (.cells #[.int .i64 m0.rows, .int .i64 m0.columns, .int .i64 m0.size, .slice m0.heightsA m0.heightsN m0.heightsC] 53))).size)
  have z1 : Hid (w.heap.size ≤ w1.heap.size) := t1.size
  have Q1 := Lib.hid q1
  have r1c : r1 < 0 ∨ 0 ≤ r1 ∧ r1 ≤ 1048576 ∧ (m0.heightsN : Int) ≤ 1048576 := by rcases q1 with h | h <;> omega
  clear q1
  by_cases y1 : r1 < 0
  · go_wp2
    go_ret
    exact Ret.b rfl t1
  have l1 : m0.heightsN ≤ 1048576 := by omega
  have fa0 : w1.cell? ⟨w.heap.size, 0, none⟩ = some (.int .i64 m0.rows) := (tb1.cell (p := ⟨w.heap.size, 0, none⟩) (by simp)).trans (HOb.out.cell 0)
  have fa1 : w1.cell? ⟨w.heap.size, 1, none⟩ = some (.int .i64 m0.columns) := (tb1.cell (p := ⟨w.heap.size, 1, none⟩) (by simp)).trans (HOb.out.cell 1)
  have fa2 : w1.cell? ⟨w.heap.size, 2, none⟩ = some (.int .i64 m0.size) := (tb1.cell (p := ⟨w.heap.size, 2, none⟩) (by simp)).trans (HOb.out.cell 2)
  have fa3 : w1.cell? ⟨w.heap.size, 3, none⟩ = some (.slice m0.heightsA m0.heightsN m0.heightsC) := (tb1.cell (p := ⟨w.heap.size, 3, none⟩) (by simp)).trans (HOb.out.cell 3)
  go_wp2_with fail
  clear fa0 fa1 fa2 fa3
  refine (toGrid_any m0 _ (MI.out.below t1) l1).mono ?_
  rintro e w2 ⟨p2, rfl, hv2, o2, b2⟩
  have t2 : Below w.heap.size w w2 := t1.trans (b2.mono t1.size)
  have tb2 : Below (w.alloc (.cells #[.int .i64 m0.rows, .int .i64 m0.columns, .int .i64 m0.size, .slice m0.heightsA m0.heightsN m0.heightsC] 53)).heap.size (w.alloc (.cells #[.int .i64 m0.rows, .int .i64 m0.columns, .int .i64 m0.size, .slice m0.heightsA m0.heightsN m0.heightsC] 53)) w2 := tb1.trans (b2.mono tb1.size)
  have z2 : Hid (w1.heap.size ≤ w2.heap.size) := b2.size
  have HV2 := Lib.hid hv2
  clear hv2
  have lo2 := Lib.hid o2.lt
  go_wp2_with fail
  refine (specNeighboursOf_any p2 a1 _ (GridR.in_of o2)).mono ?_
  rintro e w3 ⟨v3, he, o3, b3⟩
  try rw [HV2.out] at he
  rw [HV2.out] at o3
  subst he
  have t3 : Below w.heap.size w w3 := t2.trans (b3.mono t2.size)
  have tb3 : Below (w.alloc (.cells #[.int .i64 m0.rows, .int .i64 m0.columns, .int .i64 m0.size, .slice m0.heightsA m0.heightsN m0.heightsC] 53)).heap.size (w.alloc (.cells #[.int .i64 m0.rows, .int .i64 m0.columns, .int .i64 m0.size, .slice m0.heightsA m0.heightsN m0.heightsC] 53)) w3 := tb2.trans (b3.mono tb2.size)
  have z3 : Hid (w2.heap.size ≤ w3.heap.size) := b3.size
  have o2_3 := o2.below' b3
  have lo3 := Lib.hid o3.lt
  have fa0 : w3.cell? ⟨w.heap.size, 0, none⟩ = some (.int .i64 m0.rows) := (tb3.cell (p := ⟨w.heap.size, 0, none⟩) (by simp)).trans (HOb.out.cell 0)
  have fa1 : w3.cell? ⟨w.heap.size, 1, none⟩ = some (.int .i64 m0.columns) := (tb3.cell (p := ⟨w.heap.size, 1, none⟩) (by simp)).trans (HOb.out.cell 1)
  have fa2 : w3.cell? ⟨w.heap.size, 2, none⟩ = some (.int .i64 m0.size) := (tb3.cell (p := ⟨w.heap.size, 2, none⟩) (by simp)).trans (HOb.out.cell 2)
  have fa3 : w3.cell? ⟨w.heap.size, 3, none⟩ = some (.slice m0.heightsA m0.heightsN m0.heightsC) := (tb3.cell (p := ⟨w.heap.size, 3, none⟩) (by simp)).trans (HOb.out.cell 3)
  go_wp2_with fail
  clear fa0 fa1 fa2 fa3
  refine (toGrid_any m0 _ (MI.out.below t3) l1).mono ?_
  rintro e w4 ⟨p4, rfl, hv4, o4, b4⟩
  have t4 : Below w.heap.size w w4 := t3.trans (b4.mono t3.size)
  have tb4 : Below (w.alloc (.cells #[.int .i64 m0.rows, .int .i64 m0.columns, .int .i64 m0.size, .slice m0.heightsA m0.heightsN m0.heightsC] 53)).heap.size (w.alloc (.cells #[.int .i64 m0.rows, .int .i64 m0.columns, .int .i64 m0.size, .slice m0.heightsA m0.heightsN m0.heightsC] 53)) w4 := tb3.trans (b4.mono tb3.size)
  have z4 : Hid (w3.heap.size ≤ w4.heap.size) := b4.size
  have o3_4 := o3.below' b4
  have HV4 := Lib.hid hv4
  clear hv4
  have lo4 := Lib.hid o4.lt
  have bX : Below w4.heap.size w4 (w4.alloc (.cells #[.int .i64 p4.rows, .int .i64 p4.columns, .int .i64 p4.size, .slice p4.heightsA p4.heightsN p4.heightsC] 57)) := (Below.refl _ _).alloc (Nat.le_refl _) _
  have HOx := Lib.hid (Own.new w4 57 #[.int .i64 p4.rows, .int .i64 p4.columns, .int .i64 p4.size, .slice p4.heightsA p4.heightsN p4.heightsC])
  have tX : Below w.heap.size w (w4.alloc (.cells #[.int .i64 p4.rows, .int .i64 p4.columns, .int .i64 p4.size, .slice p4.heightsA p4.heightsN p4.heightsC] 57)) := t4.trans (bX.mono t4.size)
  have tbX : Below (w.alloc (.cells #[.int .i64 m0.rows, .int .i64 m0.columns, .int .i64 m0.size, .slice m0.heightsA m0.heightsN m0.heightsC] 53)).heap.size (w.alloc (.cells #[.int .i64 m0.rows, .int .i64 m0.columns, .int .i64 m0.size, .slice m0.heightsA m0.heightsN m0.heightsC] 53)) (w4.alloc (.cells #[.int .i64 p4.rows, .int .i64 p4.columns, .int .i64 p4.size, .slice p4.heightsA p4.heightsN p4.heightsC] 57)) := tb4.trans (bX.mono tb4.size)
  have o3_X := o3_4.below' bX
  have o4_X := o4.below' bX
  go_wp2_with fail
  refine (implNeighboursOf_any p4 a1 _ (GridR.in_of o4_X)).mono ?_
  rintro e w5 ⟨v5, he, o5, b5⟩
  try rw [HV4.out] at he
  rw [HV4.out] at o5
  subst he
  have t5 : Below w.heap.size w w5 := tX.trans (b5.mono tX.size)
  have tb5 : Below (w.alloc (.cells #[.int .i64 m0.rows, .int .i64 m0.columns, .int .i64 m0.size, .slice m0.heightsA m0.heightsN m0.heightsC] 53)).heap.size (w.alloc (.cells #[.int .i64 m0.rows, .int .i64 m0.columns, .int .i64 m0.size, .slice m0.heightsA m0.heightsN m0.heightsC] 53)) w5 := tbX.trans (b5.mono tbX.size)
  have tx5 : Below (w4.alloc (.cells #[.int .i64 p4.rows, .int .i64 p4.columns, .int .i64 p4.size, .slice p4.heightsA p4.heightsN p4.heightsC] 57)).heap.size (w4.alloc (.cells #[.int .i64 p4.rows, .int .i64 p4.columns, .int .i64 p4.size, .slice p4.heightsA p4.heightsN p4.heightsC] 57)) w5 := (Below.refl (w4.alloc (.cells #[.int .i64 p4.rows, .int .i64 p4.columns, .int .i64 p4.size, .slice p4.heightsA p4.heightsN p4.heightsC] 57)).heap.size (w4.alloc (.cells #[.int .i64 p4.rows, .int .i64 p4.columns, .int .i64 p4.size, .slice p4.heightsA p4.heightsN p4.heightsC] 57))).trans (b5.mono (Below.refl (w4.alloc (.cells #[.int .i64 p4.rows, .int .i64 p4.columns, .int .i64 p4.size, .slice p4.heightsA p4.heightsN p4.heightsC] 57)).heap.size (w4.alloc (.cells #[.int .i64 p4.rows, .int .i64 p4.columns, .int .i64 p4.size, .slice p4.heightsA p4.heightsN p4.heightsC] 57))).size)
  have z5 : Hid (w4.heap.size ≤ w5.heap.size) := Nat.le_trans bX.size b5.size
  have o3_5 := o3_X.below' b5
  have o4_5 := o4_X.below' b5
  have lo5 : Hid (∀ k, v5.ownBlock = some k → w4.heap.size ≤ k ∧ k < w5.heap.size) := fun k hk => ⟨Nat.le_trans bX.size (o5.lt k hk).1, (o5.lt k hk).2⟩
  have HL5 : Hid ((nearA m0.val a1).length ≤ 1048576) := nearA_len _ _
  go_wp2_with fail
  refine (eqInt64S_own o5 o3_5).mono ?_
  rintro e w6 ⟨rfl, b6⟩
  have t6 : Below w.heap.size w w6 := t5.trans (b6.mono t5.size)
  have tb6 : Below (w.alloc (.cells #[.int .i64 m0.rows, .int .i64 m0.columns, .int .i64 m0.size, .slice m0.heightsA m0.heightsN m0.heightsC] 53)).heap.size (w.alloc (.cells #[.int .i64 m0.rows, .int .i64 m0.columns, .int .i64 m0.size, .slice m0.heightsA m0.heightsN m0.heightsC] 53)) w6 := tb5.trans (b6.mono tb5.size)
  have tx6 : Below (w4.alloc (.cells #[.int .i64 p4.rows, .int .i64 p4.columns, .int .i64 p4.size, .slice p4.heightsA p4.heightsN p4.heightsC] 57)).heap.size (w4.alloc (.cells #[.int .i64 p4.rows, .int .i64 p4.columns, .int .i64 p4.size, .slice p4.heightsA p4.heightsN p4.heightsC] 57)) w6 := tx5.trans (b6.mono tx5.size)
  have z6 : Hid (w5.heap.size ≤ w6.heap.size) := b6.size
  have o3_6 := o3_5.below' b6
  have o4_6 := o4_5.below' b6
  have o5_6 := o5.below' b6
  rw [Int64.eqSB_self]
  have fa0 : w6.cell? ⟨w.heap.size, 0, none⟩ = some (.int .i64 m0.rows) := (tb6.cell (p := ⟨w.heap.size, 0, none⟩) (by simp)).trans (HOb.out.cell 0)
  have fa1 : w6.cell? ⟨w.heap.size, 1, none⟩ = some (.int .i64 m0.columns) := (tb6.cell (p := ⟨w.heap.size, 1, none⟩) (by simp)).trans (HOb.out.cell 1)
  have fa2 : w6.cell? ⟨w.heap.size, 2, none⟩ = some (.int .i64 m0.size) := (tb6.cell (p := ⟨w.heap.size, 2, none⟩) (by simp)).trans (HOb.out.cell 2)
  have fa3 : w6.cell? ⟨w.heap.size, 3, none⟩ = some (.slice m0.heightsA m0.heightsN m0.heightsC) := (tb6.cell (p := ⟨w.heap.size, 3, none⟩) (by simp)).trans (HOb.out.cell 3)
  have fx0 : w6.cell? ⟨w4.heap.size, 0, none⟩ = some (.int .i64 p4.rows) := (tx6.cell (p := ⟨w4.heap.size, 0, none⟩) (by simp)).trans (HOx.out.cell 0)
  have fx1 : w6.cell? ⟨w4.heap.size, 1, none⟩ = some (.int .i64 p4.columns) := (tx6.cell (p := ⟨w4.heap.size, 1, none⟩) (by simp)).trans (HOx.out.cell 1)
  have fx2 : w6.cell? ⟨w4.heap.size, 2, none⟩ = some (.int .i64 p4.size) := (tx6.cell (p := ⟨w4.heap.size, 2, none⟩) (by simp)).trans (HOx.out.cell 2)
  have fx3 : w6.cell? ⟨w4.heap.size, 3, none⟩ = some (.slice p4.heightsA p4.heightsN p4.heightsC) := (tx6.cell (p := ⟨w4.heap.size, 3, none⟩) (by simp)).trans (HOx.out.cell 3)
  have mX : m0.In w6 := MI.out.below t6
  have pX : p4.In w6 := GridR.in_of o4_6
  have MX := Lib.hid mX
  have PX := Lib.hid pX
  clear mX pX
  have saX : w.heap.size < w6.heap.size := Nat.lt_of_lt_of_le (by simp) tb6.size
  have sxX : w4.heap.size < w6.heap.size := Nat.lt_of_lt_of_le (by simp) tx6.size
  have HS : ∀ w', Below w6.heap.size w6 w' → w'.cell? ⟨w.heap.size, 0, none⟩ = some (.int .i64 m0.rows) ∧ w'.cell? ⟨w.heap.size, 1, none⟩ = some (.int .i64 m0.columns) ∧ w'.cell? ⟨w.heap.size, 2, none⟩ = some (.int .i64 m0.size) ∧ w'.cell? ⟨w.heap.size, 3, none⟩ = some (.slice m0.heightsA m0.heightsN m0.heightsC) ∧ w'.cell? ⟨w4.heap.size, 0, none⟩ = some (.int .i64 p4.rows) ∧ w'.cell? ⟨w4.heap.size, 1, none⟩ = some (.int .i64 p4.columns) ∧ w'.cell? ⟨w4.heap.size, 2, none⟩ = some (.int .i64 p4.size) ∧ w'.cell? ⟨w4.heap.size, 3, none⟩ = some (.slice p4.heightsA p4.heightsN p4.heightsC) ∧ Below w6.heap.size w6 w' := fun w' h => ⟨(h.cell (p := ⟨w.heap.size, 0, none⟩) saX).trans fa0, (h.cell (p := ⟨w.heap.size, 1, none⟩) saX).trans fa1, (h.cell (p := ⟨w.heap.size, 2, none⟩) saX).trans fa2, (h.cell (p := ⟨w.heap.size, 3, none⟩) saX).trans fa3, (h.cell (p := ⟨w4.heap.size, 0, none⟩) sxX).trans fx0, (h.cell (p := ⟨w4.heap.size, 1, none⟩) sxX).trans fx1, (h.cell (p := ⟨w4.heap.size, 2, none⟩) sxX).trans fx2, (h.cell (p := ⟨w4.heap.size, 3, none⟩) sxX).trans fx3, h⟩
  go_wp2_with fail
  clear fa0 fa1 fa2 fa3 fx0 fx1 fx2 fx3
  go_region_held3 (fun w' => w'.cell? ⟨w.heap.size, 0, none⟩ = some (.int .i64 m0.rows) ∧ w'.cell? ⟨w.heap.size, 1, none⟩ = some (.int .i64 m0.columns) ∧ w'.cell? ⟨w.heap.size, 2, none⟩ = some (.int .i64 m0.size) ∧ w'.cell? ⟨w.heap.size, 3, none⟩ = some (.slice m0.heightsA m0.heightsN m0.heightsC) ∧ w'.cell? ⟨w4.heap.size, 0, none⟩ = some (.int .i64 p4.rows) ∧ w'.cell? ⟨w4.heap.size, 1, none⟩ = some (.int .i64 p4.columns) ∧ w'.cell? ⟨w4.heap.size, 2, none⟩ = some (.int .i64 p4.size) ∧ w'.cell? ⟨w4.heap.size, 3, none⟩ = some (.slice p4.heightsA p4.heightsN p4.heightsC) ∧ Below w6.heap.size w6 w') (first | exact HS _ (Below.refl _ _) | exact HS _ (Below.drew (Below.refl _ _)) | exact HS _ hBv | exact HS _ (Below.drew hBv) | exact HS _ hBw | exact HS _ (Below.drew hBw)) (first | (go_at_call 28; refine (toGrid_any m0 _ (MX.out.below (‹_ ∧ _ ∧ _ ∧ _ ∧ _ ∧ _ ∧ _ ∧ _ ∧ Below w6.heap.size w6 _›).2.2.2.2.2.2.2.2) l1).mono ?_; rintro e wq ⟨q, rfl, hq, oq, hbq⟩; have hBw := (‹_ ∧ _ ∧ _ ∧ _ ∧ _ ∧ _ ∧ _ ∧ _ ∧ Below w6.heap.size w6 _›).2.2.2.2.2.2.2.2.trans (hbq.mono (‹_ ∧ _ ∧ _ ∧ _ ∧ _ ∧ _ ∧ _ ∧ _ ∧ Below w6.heap.size w6 _›).2.2.2.2.2.2.2.2.size); have hqi : q.In wq := GridR.in_of oq) | (go_at_call 30; refine (eqGrid_any p4 q _ (PX.out.below (‹_ ∧ _ ∧ _ ∧ _ ∧ _ ∧ _ ∧ _ ∧ _ ∧ Below w6.heap.size w6 _›).2.2.2.2.2.2.2.2) (by first | exact hqi | exact hqi.below ((Below.refl _ _).drew))).mono ?_; rintro e w7 ⟨rfl, hbe⟩; have hBv := (‹_ ∧ _ ∧ _ ∧ _ ∧ _ ∧ _ ∧ _ ∧ _ ∧ Below w6.heap.size w6 _›).2.2.2.2.2.2.2.2.trans (hbe.mono (‹_ ∧ _ ∧ _ ∧ _ ∧ _ ∧ _ ∧ _ ∧ _ ∧ Below w6.heap.size w6 _›).2.2.2.2.2.2.2.2.size); rw [HV4.out, hq, Grid.eqB_self]))
  clear HS
  have b7 := hBv
  have t7 : Below w.heap.size w w7 := t6.trans (b7.mono t6.size)
  have tb7 : Below (w.alloc (.cells #[.int .i64 m0.rows, .int .i64 m0.columns, .int .i64 m0.size, .slice m0.heightsA m0.heightsN m0.heightsC] 53)).heap.size (w.alloc (.cells #[.int .i64 m0.rows, .int .i64 m0.columns, .int .i64 m0.size, .slice m0.heightsA m0.heightsN m0.heightsC] 53)) w7 := tb6.trans (b7.mono tb6.size)
  have tx7 : Below (w4.alloc (.cells #[.int .i64 p4.rows, .int .i64 p4.columns, .int .i64 p4.size, .slice p4.heightsA p4.heightsN p4.heightsC] 57)).heap.size (w4.alloc (.cells #[.int .i64 p4.rows, .int .i64 p4.columns, .int .i64 p4.size, .slice p4.heightsA p4.heightsN p4.heightsC] 57)) w7 := tx6.trans (b7.mono tx6.size)
  have z7 : Hid (w6.heap.size ≤ w7.heap.size) := b7.size
  have o3_7 := o3_6.below' b7
  have o4_7 := o4_6.below' b7
  have o5_7 := o5_6.below' b7
  have HLP : Hid (p4.heights.length ≤ 1048576) := by
    have h := congrArg (fun q => q.heights.length) HV4.out
    rw [Hid, show p4.heights.length = m0.heights.length from h, hl0.out]; exact l1
  have fx0 : w7.cell? ⟨w4.heap.size, 0, none⟩ = some (.int .i64 p4.rows) := (tx7.cell (p := ⟨w4.heap.size, 0, none⟩) (by simp)).trans (HOx.out.cell 0)
  have fx1 : w7.cell? ⟨w4.heap.size, 1, none⟩ = some (.int .i64 p4.columns) := (tx7.cell (p := ⟨w4.heap.size, 1, none⟩) (by simp)).trans (HOx.out.cell 1)
  have fx2 : w7.cell? ⟨w4.heap.size, 2, none⟩ = some (.int .i64 p4.size) := (tx7.cell (p := ⟨w4.heap.size, 2, none⟩) (by simp)).trans (HOx.out.cell 2)
  have fx3 : w7.cell? ⟨w4.heap.size, 3, none⟩ = some (.slice p4.heightsA p4.heightsN p4.heightsC) := (tx7.cell (p := ⟨w4.heap.size, 3, none⟩) (by simp)).trans (HOx.out.cell 3)
  go_wp2_with fail
  clear fx0 fx1 fx2 fx3
  refine (markGrid_any _ p4 _ _ o4_7 (by omega) (by omega) HLP.out).mono ?_
  rintro e w8 ⟨rfl, mk8⟩
  have sp8 : Span w3.heap.size w4.heap.size w7 w8 := mk8 _ _ (fun k hk => lo4.out k hk)
  have z8 : Hid (w7.heap.size ≤ w8.heap.size) := sp8.size
  have t8 : Below w.heap.size w w8 := Below.span t7 sp8 t7.size t3.size
  have tb8 : Below (w.alloc (.cells #[.int .i64 m0.rows, .int .i64 m0.columns, .int .i64 m0.size, .slice m0.heightsA m0.heightsN m0.heightsC] 53)).heap.size (w.alloc (.cells #[.int .i64 m0.rows, .int .i64 m0.columns, .int .i64 m0.size, .slice m0.heightsA m0.heightsN m0.heightsC] 53)) w8 := Below.span tb7 sp8 tb7.size tb3.size
  have o3_8 := o3_7.span sp8 (fun k hk => by have h := lo3.out k hk;  omega)
  have o5_8 := o5_7.span sp8 (fun k hk => by have h := lo5.out k hk;  omega)
  clear mk8
  have hlp := HLP.out
  go_wp2_with fail
  refine (eqInt64S_own o5_8 o3_8).mono ?_
  rintro e w9 ⟨rfl, b9⟩
  have t9 : Below w.heap.size w w9 := t8.trans (b9.mono t8.size)
  have tb9 : Below (w.alloc (.cells #[.int .i64 m0.rows, .int .i64 m0.columns, .int .i64 m0.size, .slice m0.heightsA m0.heightsN m0.heightsC] 53)).heap.size (w.alloc (.cells #[.int .i64 m0.rows, .int .i64 m0.columns, .int .i64 m0.size, .slice m0.heightsA m0.heightsN m0.heightsC] 53)) w9 := tb8.trans (b9.mono tb8.size)
  have z9 : Hid (w8.heap.size ≤ w9.heap.size) := b9.size
  have o3_9 := o3_8.below' b9
  have o5_9 := o5_8.below' b9
  rw [Int64.eqSB_self]
  go_wp2_with fail
  refine (markInt64S_any _ _ _ _ _ o5_9 (by omega) (by omega) HL5.out).mono ?_
  rintro e w10 ⟨rfl, om10, mk10⟩
  have sp10 : Span w4.heap.size w5.heap.size w9 w10 := mk10.span (fun k hk => lo5.out k hk)
  have z10 : Hid (w9.heap.size ≤ w10.heap.size) := sp10.size
  have t10 : Below w.heap.size w w10 := Below.span t9 sp10 t9.size t4.size
  have tb10 : Below (w.alloc (.cells #[.int .i64 m0.rows, .int .i64 m0.columns, .int .i64 m0.size, .slice m0.heightsA m0.heightsN m0.heightsC] 53)).heap.size (w.alloc (.cells #[.int .i64 m0.rows, .int .i64 m0.columns, .int .i64 m0.size, .slice m0.heightsA m0.heightsN m0.heightsC] 53)) w10 := Below.span tb9 sp10 tb9.size tb4.size
  have o3_10 := o3_9.span sp10 (fun k hk => by have h := lo3.out k hk; have := z4.out; omega)
  clear mk10
  go_wp2_with fail
  refine (heldInt64S_any _ _ _ _ _ om10 (by omega) (by omega) HL5.out).mono ?_
  rintro e w' ⟨rfl, rfl⟩
  have fa0 : w10.cell? ⟨w.heap.size, 0, none⟩ = some (.int .i64 m0.rows) := (tb10.cell (p := ⟨w.heap.size, 0, none⟩) (by simp)).trans (HOb.out.cell 0)
  have fa1 : w10.cell? ⟨w.heap.size, 1, none⟩ = some (.int .i64 m0.columns) := (tb10.cell (p := ⟨w.heap.size, 1, none⟩) (by simp)).trans (HOb.out.cell 1)
  have fa2 : w10.cell? ⟨w.heap.size, 2, none⟩ = some (.int .i64 m0.size) := (tb10.cell (p := ⟨w.heap.size, 2, none⟩) (by simp)).trans (HOb.out.cell 2)
  have fa3 : w10.cell? ⟨w.heap.size, 3, none⟩ = some (.slice m0.heightsA m0.heightsN m0.heightsC) := (tb10.cell (p := ⟨w.heap.size, 3, none⟩) (by simp)).trans (HOb.out.cell 3)
  go_wp2_with fail
  clear fa0 fa1 fa2 fa3
  refine (toGrid_any m0 _ (MI.out.below t10) l1).mono ?_
  rintro e w11 ⟨p11, rfl, hv11, o11, b11⟩
  have t11 : Below w.heap.size w w11 := t10.trans (b11.mono t10.size)
  have tb11 : Below (w.alloc (.cells #[.int .i64 m0.rows, .int .i64 m0.columns, .int .i64 m0.size, .slice m0.heightsA m0.heightsN m0.heightsC] 53)).heap.size (w.alloc (.cells #[.int .i64 m0.rows, .int .i64 m0.columns, .int .i64 m0.size, .slice m0.heightsA m0.heightsN m0.heightsC] 53)) w11 := tb10.trans (b11.mono tb10.size)
  have z11 : Hid (w10.heap.size ≤ w11.heap.size) := b11.size
  have o3_11 := o3_10.below' b11
  have om10_11 := om10.below' b11
  have HV11 := Lib.hid hv11
  clear hv11
  have lo11 := Lib.hid o11.lt
  go_wp2_with fail
  refine (implNeighboursOf_any p11 a1 _ (GridR.in_of o11)).mono ?_
  rintro e w12 ⟨v12, he, o12, b12⟩
  try rw [HV11.out] at he
  rw [HV11.out] at o12
  subst he
  have t12 : Below w.heap.size w w12 := t11.trans (b12.mono t11.size)
  have tb12 : Below (w.alloc (.cells #[.int .i64 m0.rows, .int .i64 m0.columns, .int .i64 m0.size, .slice m0.heightsA m0.heightsN m0.heightsC] 53)).heap.size (w.alloc (.cells #[.int .i64 m0.rows, .int .i64 m0.columns, .int .i64 m0.size, .slice m0.heightsA m0.heightsN m0.heightsC] 53)) w12 := tb11.trans (b12.mono tb11.size)
  have z12 : Hid (w11.heap.size ≤ w12.heap.size) := b12.size
  have o3_12 := o3_11.below' b12
  have om10_12 := om10_11.below' b12
  have o11_12 := o11.below' b12
  have lo12 := Lib.hid o12.lt
  go_wp2_with fail
  refine (eqInt64S_own o12 o3_12).mono ?_
  rintro e w13 ⟨rfl, b13⟩
  have t13 : Below w.heap.size w w13 := t12.trans (b13.mono t12.size)
  have tb13 : Below (w.alloc (.cells #[.int .i64 m0.rows, .int .i64 m0.columns, .int .i64 m0.size, .slice m0.heightsA m0.heightsN m0.heightsC] 53)).heap.size (w.alloc (.cells #[.int .i64 m0.rows, .int .i64 m0.columns, .int .i64 m0.size, .slice m0.heightsA m0.heightsN m0.heightsC] 53)) w13 := tb12.trans (b13.mono tb12.size)
  have z13 : Hid (w12.heap.size ≤ w13.heap.size) := b13.size
  have o3_13 := o3_12.below' b13
  have om10_13 := om10_12.below' b13
  have o12_13 := o12.below' b13
  rw [Int64.eqSB_self]
  go_wp2_with fail
  refine (heldInt64S_any _ _ _ _ _ om10_13 (by omega) (by omega) HL5.out).mono ?_
  rintro e w' ⟨rfl, rfl⟩
  go_wp2
  go_ret
  exact Ret.b rfl t13

end Go.Proofs.Ytdpepdcbgocbcaa
