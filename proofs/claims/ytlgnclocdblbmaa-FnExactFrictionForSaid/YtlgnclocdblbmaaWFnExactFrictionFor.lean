/- The walk of the law FnExactFrictionFor: it returns true. -/
import Derived.Test.YtlgnclocdblbmaaFricS
import Derived.Deep.RegionHeld3
namespace Go.Proofs.Ytlgnclocdblbmaa
open Go.RowKit

set_option maxRecDepth 100000 in
set_option maxHeartbeats 1000000 in
theorem walk_FnExactFrictionFor (m0 : GridR) (A1 : Option Addr) (n1 c1 : Nat) (x1 : List Int) (a2 : Int) (w : World) (mi0 : m0.In w) (mg0 : m0.val.Good) (s1 : SliceOf w 1 i64cells A1 n1 x1) (_g1 : ∀ x ∈ x1, I64 x) (_g2 : I64 a2) : Calls Try.prog 12 #[.agg #[.int .i64 m0.rows, .int .i64 m0.columns, .int .i64 m0.size, .slice m0.heightsA m0.heightsN m0.heightsC], .slice A1 n1 c1, .int .i64 a2] w (Ret (.bool true) w) := by
  have e1 := Int64.eqSB_self x1
  have ln1 := s1.le
  have hl1 := Lib.hid s1.len
  by_cases L1 : 1048576 < n1
  · go_enter Try.func12, Try.ntmps12
    go_wp2
    go_ret
    exact Ret.b rfl (by first | exact Below.refl _ _ | exact (Below.refl _ _).alloc (Nat.le_refl _) _)
  have hBx : Below w.heap.size w (w.alloc (.cells #[.int .i64 m0.rows, .int .i64 m0.columns, .int .i64 m0.size, .slice m0.heightsA m0.heightsN m0.heightsC] 24)) := (Below.refl _ _).alloc (Nat.le_refl _) _
  have HOb := Lib.hid (Own.new w 24 #[.int .i64 m0.rows, .int .i64 m0.columns, .int .i64 m0.size, .slice m0.heightsA m0.heightsN m0.heightsC])
  have MI := Lib.hid mi0
  have MG := Lib.hid mg0
  have ln0 := mi0.1.le
  have hl0 := Lib.hid mi0.1.len
  clear mi0 mg0
  go_enter Try.func12, Try.ntmps12
  go_wp2_with fail
  refine (szGrid_any m0 _ _ (MI.out.below hBx) MG.out (by omega) (by omega)).mono ?_
  rintro e w1 ⟨v, rfl, ⟨r1, rfl, q1⟩, b1⟩
  have t1 : Below w.heap.size w w1 := hBx.trans (b1.mono hBx.size)
  have tb1 : Below (w.alloc (.cells #[.int .i64 m0.rows, .int .i64 m0.columns, .int .i64 m0.size, .slice m0.heightsA m0.heightsN m0.heightsC] 24)).heap.size (w.alloc (.cells #[.int .i64 m0.rows, .int .i64 m0.columns, .int .i64 m0.size, .slice m0.heightsA m0.heightsN m0.heightsC] 24)) w1 := (Below.refl (w.alloc (.cells #[.int .i64 m0.rows, .int .i64 m0.columns, .int .i64 m0.size, .slice m0.heightsA m0.heightsN m0.heightsC] 24)).heap.size (w.alloc (.cells #[.int .i64 m0.rows, .int .i64 m0.columns, .int .i64 m0.size, .slice m0.heightsA m0.heightsN m0.heightsC] 24))).trans (b1.mono (Below.refl (w.alloc (.cells #[.int .i64 m0.rows, .int .i64 m0.columns, .int .i64 m0.size, .slice m0.heightsA m0.heightsN m0.heightsC] 24)).heap.size (w.alloc (.cells #[.int .i64 m0.rows, .int .i64 m0.columns, .int .i64 m0.size, .slice m0.heightsA m0.heightsN m0.heightsC] 24))).size)
  have z1 : Hid (w.heap.size ≤ w1.heap.size) := t1.size
  have Q1 := Lib.hid q1
  have r1c : r1 < 0 ∨ 0 ≤ r1 ∧ r1 ≤ 1048576 ∧ (m0.heightsN : Int) ≤ 1048576 := by rcases q1 with h | h <;> omega
  clear q1
  by_cases y1 : r1 < 0
  · go_wp2
    go_ret
    exact Ret.b rfl t1
  have l1 : m0.heightsN ≤ 1048576 := by omega
  have fa0 : w1.cell? ⟨w.heap.size, 0, none⟩ = some (.int .i64 m0.rows) := (tb1.cell (p := ⟨w.heap.size, 0, none⟩) (by simp)).trans (HOb.out.cell 0)
  have fa1 : w1.cell? ⟨w.heap.size, 1, none⟩ = some (.int .i64 m0.columns) := (tb1.cell (p := ⟨w.heap.size, 1, none⟩) (by simp)).trans (HOb.out.cell 1)
  have fa2 : w1.cell? ⟨w.heap.size, 2, none⟩ = some (.int .i64 m0.size) := (tb1.cell (p := ⟨w.heap.size, 2, none⟩) (by simp)).trans (HOb.out.cell 2)
  have fa3 : w1.cell? ⟨w.heap.size, 3, none⟩ = some (.slice m0.heightsA m0.heightsN m0.heightsC) := (tb1.cell (p := ⟨w.heap.size, 3, none⟩) (by simp)).trans (HOb.out.cell 3)
  go_wp2_with fail
  clear fa0 fa1 fa2 fa3
  refine (toGrid_any m0 _ (MI.out.below t1) l1).mono ?_
  rintro e w2 ⟨p2, rfl, hv2, o2, b2⟩
  have t2 : Below w.heap.size w w2 := t1.trans (b2.mono t1.size)
  have tb2 : Below (w.alloc (.cells #[.int .i64 m0.rows, .int .i64 m0.columns, .int .i64 m0.size, .slice m0.heightsA m0.heightsN m0.heightsC] 24)).heap.size (w.alloc (.cells #[.int .i64 m0.rows, .int .i64 m0.columns, .int .i64 m0.size, .slice m0.heightsA m0.heightsN m0.heightsC] 24)) w2 := tb1.trans (b2.mono tb1.size)
  have z2 : Hid (w1.heap.size ≤ w2.heap.size) := b2.size
  have HV2 := Lib.hid hv2
  clear hv2
  have lo2 := Lib.hid o2.lt
  go_wp2_with fail
  refine (toInt64S_any _ _ _ _ _ (s1.below t2) (by omega)).mono ?_
  rintro e w3 ⟨v3, rfl, o3, b3⟩
  have t3 : Below w.heap.size w w3 := t2.trans (b3.mono t2.size)
  have tb3 : Below (w.alloc (.cells #[.int .i64 m0.rows, .int .i64 m0.columns, .int .i64 m0.size, .slice m0.heightsA m0.heightsN m0.heightsC] 24)).heap.size (w.alloc (.cells #[.int .i64 m0.rows, .int .i64 m0.columns, .int .i64 m0.size, .slice m0.heightsA m0.heightsN m0.heightsC] 24)) w3 := tb2.trans (b3.mono tb2.size)
  have z3 : Hid (w2.heap.size ≤ w3.heap.size) := b3.size
  have o2_3 := o2.below' b3
  have lo3 := Lib.hid o3.lt
  obtain ⟨A_3, c_3, rfl, hc3, hm3, u3⟩ := o3.slice i64cells_len
  clear u3
  go_wp2_with fail
  refine (specFrictionFor_any p2 _ _ _ x1 a2 _ (GridR.in_of o2_3) (o3.sl i64cells_len)).mono ?_
  rintro e w4 ⟨he, b4⟩
  rw [HV2.out] at he
  subst he
  have t4 : Below w.heap.size w w4 := t3.trans (b4.mono t3.size)
  have tb4 : Below (w.alloc (.cells #[.int .i64 m0.rows, .int .i64 m0.columns, .int .i64 m0.size, .slice m0.heightsA m0.heightsN m0.heightsC] 24)).heap.size (w.alloc (.cells #[.int .i64 m0.rows, .int .i64 m0.columns, .int .i64 m0.size, .slice m0.heightsA m0.heightsN m0.heightsC] 24)) w4 := tb3.trans (b4.mono tb3.size)
  have z4 : Hid (w3.heap.size ≤ w4.heap.size) := b4.size
  have o2_4 := o2_3.below' b4
  have o3_4 := o3.below' b4
  have fa0 : w4.cell? ⟨w.heap.size, 0, none⟩ = some (.int .i64 m0.rows) := (tb4.cell (p := ⟨w.heap.size, 0, none⟩) (by simp)).trans (HOb.out.cell 0)
  have fa1 : w4.cell? ⟨w.heap.size, 1, none⟩ = some (.int .i64 m0.columns) := (tb4.cell (p := ⟨w.heap.size, 1, none⟩) (by simp)).trans (HOb.out.cell 1)
  have fa2 : w4.cell? ⟨w.heap.size, 2, none⟩ = some (.int .i64 m0.size) := (tb4.cell (p := ⟨w.heap.size, 2, none⟩) (by simp)).trans (HOb.out.cell 2)
  have fa3 : w4.cell? ⟨w.heap.size, 3, none⟩ = some (.slice m0.heightsA m0.heightsN m0.heightsC) := (tb4.cell (p := ⟨w.heap.size, 3, none⟩) (by simp)).trans (HOb.out.cell 3)
  go_wp2_with fail
  clear fa0 fa1 fa2 fa3
  refine (toGrid_any m0 _ (MI.out.below t4) l1).mono ?_
  rintro e w5 ⟨p5, rfl, hv5, o5, b5⟩
  have t5 : Below w.heap.size w w5 := t4.trans (b5.mono t4.size)
  have tb5 : Below (w.alloc (.cells #[.int .i64 m0.rows, .int .i64 m0.columns, .int .i64 m0.size, .slice m0.heightsA m0.heightsN m0.heightsC] 24)).heap.size (w.alloc (.cells #[.int .i64 m0.rows, .int .i64 m0.columns, .int .i64 m0.size, .slice m0.heightsA m0.heightsN m0.heightsC] 24)) w5 := tb4.trans (b5.mono tb4.size)
  have z5 : Hid (w4.heap.size ≤ w5.heap.size) := b5.size
  have HV5 := Lib.hid hv5
  clear hv5
  have lo5 := Lib.hid o5.lt
  have bX : Below w5.heap.size w5 (w5.alloc (.cells #[.int .i64 p5.rows, .int .i64 p5.columns, .int .i64 p5.size, .slice p5.heightsA p5.heightsN p5.heightsC] 29)) := (Below.refl _ _).alloc (Nat.le_refl _) _
  have HOx := Lib.hid (Own.new w5 29 #[.int .i64 p5.rows, .int .i64 p5.columns, .int .i64 p5.size, .slice p5.heightsA p5.heightsN p5.heightsC])
  have tX : Below w.heap.size w (w5.alloc (.cells #[.int .i64 p5.rows, .int .i64 p5.columns, .int .i64 p5.size, .slice p5.heightsA p5.heightsN p5.heightsC] 29)) := t5.trans (bX.mono t5.size)
  have tbX : Below (w.alloc (.cells #[.int .i64 m0.rows, .int .i64 m0.columns, .int .i64 m0.size, .slice m0.heightsA m0.heightsN m0.heightsC] 24)).heap.size (w.alloc (.cells #[.int .i64 m0.rows, .int .i64 m0.columns, .int .i64 m0.size, .slice m0.heightsA m0.heightsN m0.heightsC] 24)) (w5.alloc (.cells #[.int .i64 p5.rows, .int .i64 p5.columns, .int .i64 p5.size, .slice p5.heightsA p5.heightsN p5.heightsC] 29)) := tb5.trans (bX.mono tb5.size)
  have o5_X := o5.below' bX
  go_wp2_with fail
  refine (toInt64S_any _ _ _ _ _ (s1.below tX) (by omega)).mono ?_
  rintro e w6 ⟨v6, rfl, o6, b6⟩
  have t6 : Below w.heap.size w w6 := tX.trans (b6.mono tX.size)
  have tb6 : Below (w.alloc (.cells #[.int .i64 m0.rows, .int .i64 m0.columns, .int .i64 m0.size, .slice m0.heightsA m0.heightsN m0.heightsC] 24)).heap.size (w.alloc (.cells #[.int .i64 m0.rows, .int .i64 m0.columns, .int .i64 m0.size, .slice m0.heightsA m0.heightsN m0.heightsC] 24)) w6 := tbX.trans (b6.mono tbX.size)
  have tx6 : Below (w5.alloc (.cells #[.int .i64 p5.rows, .int .i64 p5.columns, .int .i64 p5.size, .slice p5.heightsA p5.heightsN p5.heightsC] 29)).heap.size (w5.alloc (.cells #[.int .i64 p5.rows, .int .i64 p5.columns, .int .i64 p5.size, .slice p5.heightsA p5.heightsN p5.heightsC] 29)) w6 := (Below.refl (w5.alloc (.cells #[.int .i64 p5.rows, .int .i64 p5.columns, .int .i64 p5.size, .slice p5.heightsA p5.heightsN p5.heightsC] 29)).heap.size (w5.alloc (.cells #[.int .i64 p5.rows, .int .i64 p5.columns, .int .i64 p5.size, .slice p5.heightsA p5.heightsN p5.heightsC] 29))).trans (b6.mono (Below.refl (w5.alloc (.cells #[.int .i64 p5.rows, .int .i64 p5.columns, .int .i64 p5.size, .slice p5.heightsA p5.heightsN p5.heightsC] 29)).heap.size (w5.alloc (.cells #[.int .i64 p5.rows, .int .i64 p5.columns, .int .i64 p5.size, .slice p5.heightsA p5.heightsN p5.heightsC] 29))).size)
  have z6 : Hid (w5.heap.size ≤ w6.heap.size) := Nat.le_trans bX.size b6.size
  have o5_6 := o5_X.below' b6
  have lo6 : Hid (∀ k, v6.ownBlock = some k → w5.heap.size ≤ k ∧ k < w6.heap.size) := fun k hk => ⟨Nat.le_trans bX.size (o6.lt k hk).1, (o6.lt k hk).2⟩
  obtain ⟨A_6, c_6, rfl, hc6, hm6, u6⟩ := o6.slice i64cells_len
  clear u6
  have fx0 : w6.cell? ⟨w5.heap.size, 0, none⟩ = some (.int .i64 p5.rows) := (tx6.cell (p := ⟨w5.heap.size, 0, none⟩) (by simp)).trans (HOx.out.cell 0)
  have fx1 : w6.cell? ⟨w5.heap.size, 1, none⟩ = some (.int .i64 p5.columns) := (tx6.cell (p := ⟨w5.heap.size, 1, none⟩) (by simp)).trans (HOx.out.cell 1)
  have fx2 : w6.cell? ⟨w5.heap.size, 2, none⟩ = some (.int .i64 p5.size) := (tx6.cell (p := ⟨w5.heap.size, 2, none⟩) (by simp)).trans (HOx.out.cell 2)
  have fx3 : w6.cell? ⟨w5.heap.size, 3, none⟩ = some (.slice p5.heightsA p5.heightsN p5.heightsC) := (tx6.cell (p := ⟨w5.heap.size, 3, none⟩) (by simp)).trans (HOx.out.cell 3)
  go_wp2_with fail
  clear fx0 fx1 fx2 fx3
  refine (implFrictionFor_any p5 _ _ _ x1 a2 _ (GridR.in_of o5_6) (o6.sl i64cells_len)).mono ?_
  rintro e w7 ⟨he, b7⟩
  rw [HV5.out] at he
  subst he
  have t7 : Below w.heap.size w w7 := t6.trans (b7.mono t6.size)
  have tb7 : Below (w.alloc (.cells #[.int .i64 m0.rows, .int .i64 m0.columns, .int .i64 m0.size, .slice m0.heightsA m0.heightsN m0.heightsC] 24)).heap.size (w.alloc (.cells #[.int .i64 m0.rows, .int .i64 m0.columns, .int .i64 m0.size, .slice m0.heightsA m0.heightsN m0.heightsC] 24)) w7 := tb6.trans (b7.mono tb6.size)
  have tx7 : Below (w5.alloc (.cells #[.int .i64 p5.rows, .int .i64 p5.columns, .int .i64 p5.size, .slice p5.heightsA p5.heightsN p5.heightsC] 29)).heap.size (w5.alloc (.cells #[.int .i64 p5.rows, .int .i64 p5.columns, .int .i64 p5.size, .slice p5.heightsA p5.heightsN p5.heightsC] 29)) w7 := tx6.trans (b7.mono tx6.size)
  have z7 : Hid (w6.heap.size ≤ w7.heap.size) := b7.size
  have o5_7 := o5_6.below' b7
  have o6_7 := o6.below' b7
  have fa0 : w7.cell? ⟨w.heap.size, 0, none⟩ = some (.int .i64 m0.rows) := (tb7.cell (p := ⟨w.heap.size, 0, none⟩) (by simp)).trans (HOb.out.cell 0)
  have fa1 : w7.cell? ⟨w.heap.size, 1, none⟩ = some (.int .i64 m0.columns) := (tb7.cell (p := ⟨w.heap.size, 1, none⟩) (by simp)).trans (HOb.out.cell 1)
  have fa2 : w7.cell? ⟨w.heap.size, 2, none⟩ = some (.int .i64 m0.size) := (tb7.cell (p := ⟨w.heap.size, 2, none⟩) (by simp)).trans (HOb.out.cell 2)
  have fa3 : w7.cell? ⟨w.heap.size, 3, none⟩ = some (.slice m0.heightsA m0.heightsN m0.heightsC) := (tb7.cell (p := ⟨w.heap.size, 3, none⟩) (by simp)).trans (HOb.out.cell 3)
  have fx0 : w7.cell? ⟨w5.heap.size, 0, none⟩ = some (.int .i64 p5.rows) := (tx7.cell (p := ⟨w5.heap.size, 0, none⟩) (by simp)).trans (HOx.out.cell 0)
  have fx1 : w7.cell? ⟨w5.heap.size, 1, none⟩ = some (.int .i64 p5.columns) := (tx7.cell (p := ⟨w5.heap.size, 1, none⟩) (by simp)).trans (HOx.out.cell 1)
  have fx2 : w7.cell? ⟨w5.heap.size, 2, none⟩ = some (.int .i64 p5.size) := (tx7.cell (p := ⟨w5.heap.size, 2, none⟩) (by simp)).trans (HOx.out.cell 2)
  have fx3 : w7.cell? ⟨w5.heap.size, 3, none⟩ = some (.slice p5.heightsA p5.heightsN p5.heightsC) := (tx7.cell (p := ⟨w5.heap.size, 3, none⟩) (by simp)).trans (HOx.out.cell 3)
  have mX : m0.In w7 := MI.out.below t7
  have pX : p5.In w7 := GridR.in_of o5_7
  have MX := Lib.hid mX
  have PX := Lib.hid pX
  clear mX pX
  have saX : w.heap.size < w7.heap.size := Nat.lt_of_lt_of_le (by simp) tb7.size
  have sxX : w5.heap.size < w7.heap.size := Nat.lt_of_lt_of_le (by simp) tx7.size
  have HS : ∀ w', Below w7.heap.size w7 w' → w'.cell? ⟨w.heap.size, 0, none⟩ = some (.int .i64 m0.rows) ∧ w'.cell? ⟨w.heap.size, 1, none⟩ = some (.int .i64 m0.columns) ∧ w'.cell? ⟨w.heap.size, 2, none⟩ = some (.int .i64 m0.size) ∧ w'.cell? ⟨w.heap.size, 3, none⟩ = some (.slice m0.heightsA m0.heightsN m0.heightsC) ∧ w'.cell? ⟨w5.heap.size, 0, none⟩ = some (.int .i64 p5.rows) ∧ w'.cell? ⟨w5.heap.size, 1, none⟩ = some (.int .i64 p5.columns) ∧ w'.cell? ⟨w5.heap.size, 2, none⟩ = some (.int .i64 p5.size) ∧ w'.cell? ⟨w5.heap.size, 3, none⟩ = some (.slice p5.heightsA p5.heightsN p5.heightsC) ∧ Below w7.heap.size w7 w' := fun w' h => ⟨(h.cell (p := ⟨w.heap.size, 0, none⟩) saX).trans fa0, (h.cell (p := ⟨w.heap.size, 1, none⟩) saX).trans fa1, (h.cell (p := ⟨w.heap.size, 2, none⟩) saX).trans fa2, (h.cell (p := ⟨w.heap.size, 3, none⟩) saX).trans fa3, (h.cell (p := ⟨w5.heap.size, 0, none⟩) sxX).trans fx0, (h.cell (p := ⟨w5.heap.size, 1, none⟩) sxX).trans fx1, (h.cell (p := ⟨w5.heap.size, 2, none⟩) sxX).trans fx2, (h.cell (p := ⟨w5.heap.size, 3, none⟩) sxX).trans fx3, h⟩
  go_wp2_with fail
  clear fa0 fa1 fa2 fa3 fx0 fx1 fx2 fx3
  go_region_held3 (fun w' => w'.cell? ⟨w.heap.size, 0, none⟩ = some (.int .i64 m0.rows) ∧ w'.cell? ⟨w.heap.size, 1, none⟩ = some (.int .i64 m0.columns) ∧ w'.cell? ⟨w.heap.size, 2, none⟩ = some (.int .i64 m0.size) ∧ w'.cell? ⟨w.heap.size, 3, none⟩ = some (.slice m0.heightsA m0.heightsN m0.heightsC) ∧ w'.cell? ⟨w5.heap.size, 0, none⟩ = some (.int .i64 p5.rows) ∧ w'.cell? ⟨w5.heap.size, 1, none⟩ = some (.int .i64 p5.columns) ∧ w'.cell? ⟨w5.heap.size, 2, none⟩ = some (.int .i64 p5.size) ∧ w'.cell? ⟨w5.heap.size, 3, none⟩ = some (.slice p5.heightsA p5.heightsN p5.heightsC) ∧ Below w7.heap.size w7 w') (first | exact HS _ (Below.refl _ _) | exact HS _ (Below.drew (Below.refl _ _)) | exact HS _ hBv | exact HS _ (Below.drew hBv) | exact HS _ hBw | exact HS _ (Below.drew hBw)) (first | (go_at_call 16; refine (toGrid_any m0 _ (MX.out.below (‹_ ∧ _ ∧ _ ∧ _ ∧ _ ∧ _ ∧ _ ∧ _ ∧ Below w7.heap.size w7 _›).2.2.2.2.2.2.2.2) l1).mono ?_; rintro e wq ⟨q, rfl, hq, oq, hbq⟩; have hBw := (‹_ ∧ _ ∧ _ ∧ _ ∧ _ ∧ _ ∧ _ ∧ _ ∧ Below w7.heap.size w7 _›).2.2.2.2.2.2.2.2.trans (hbq.mono (‹_ ∧ _ ∧ _ ∧ _ ∧ _ ∧ _ ∧ _ ∧ _ ∧ Below w7.heap.size w7 _›).2.2.2.2.2.2.2.2.size); have hqi : q.In wq := GridR.in_of oq) | (go_at_call 19; refine (eqGrid_any p5 q _ (PX.out.below (‹_ ∧ _ ∧ _ ∧ _ ∧ _ ∧ _ ∧ _ ∧ _ ∧ Below w7.heap.size w7 _›).2.2.2.2.2.2.2.2) (by first | exact hqi | exact hqi.below ((Below.refl _ _).drew))).mono ?_; rintro e w8 ⟨rfl, hbe⟩; have hBv := (‹_ ∧ _ ∧ _ ∧ _ ∧ _ ∧ _ ∧ _ ∧ _ ∧ Below w7.heap.size w7 _›).2.2.2.2.2.2.2.2.trans (hbe.mono (‹_ ∧ _ ∧ _ ∧ _ ∧ _ ∧ _ ∧ _ ∧ _ ∧ Below w7.heap.size w7 _›).2.2.2.2.2.2.2.2.size); rw [HV5.out, hq, Grid.eqB_self]))
  clear HS
  have b8 := hBv
  have t8 : Below w.heap.size w w8 := t7.trans (b8.mono t7.size)
  have tb8 : Below (w.alloc (.cells #[.int .i64 m0.rows, .int .i64 m0.columns, .int .i64 m0.size, .slice m0.heightsA m0.heightsN m0.heightsC] 24)).heap.size (w.alloc (.cells #[.int .i64 m0.rows, .int .i64 m0.columns, .int .i64 m0.size, .slice m0.heightsA m0.heightsN m0.heightsC] 24)) w8 := tb7.trans (b8.mono tb7.size)
  have tx8 : Below (w5.alloc (.cells #[.int .i64 p5.rows, .int .i64 p5.columns, .int .i64 p5.size, .slice p5.heightsA p5.heightsN p5.heightsC] 29)).heap.size (w5.alloc (.cells #[.int .i64 p5.rows, .int .i64 p5.columns, .int .i64 p5.size, .slice p5.heightsA p5.heightsN p5.heightsC] 29)) w8 := tx7.trans (b8.mono tx7.size)
  have z8 : Hid (w7.heap.size ≤ w8.heap.size) := b8.size
  have o5_8 := o5_7.below' b8
  have o6_8 := o6_7.below' b8
  go_wp2_with fail
  refine (toInt64S_any _ _ _ _ _ (s1.below t8) (by omega)).mono ?_
  rintro e w9 ⟨v9, rfl, o9, b9⟩
  have t9 : Below w.heap.size w w9 := t8.trans (b9.mono t8.size)
  have tb9 : Below (w.alloc (.cells #[.int .i64 m0.rows, .int .i64 m0.columns, .int .i64 m0.size, .slice m0.heightsA m0.heightsN m0.heightsC] 24)).heap.size (w.alloc (.cells #[.int .i64 m0.rows, .int .i64 m0.columns, .int .i64 m0.size, .slice m0.heightsA m0.heightsN m0.heightsC] 24)) w9 := tb8.trans (b9.mono tb8.size)
  have tx9 : Below (w5.alloc (.cells #[.int .i64 p5.rows, .int .i64 p5.columns, .int .i64 p5.size, .slice p5.heightsA p5.heightsN p5.heightsC] 29)).heap.size (w5.alloc (.cells #[.int .i64 p5.rows, .int .i64 p5.columns, .int .i64 p5.size, .slice p5.heightsA p5.heightsN p5.heightsC] 29)) w9 := tx8.trans (b9.mono tx8.size)
  have z9 : Hid (w8.heap.size ≤ w9.heap.size) := b9.size
  have o5_9 := o5_8.below' b9
  have o6_9 := o6_8.below' b9
  have lo9 := Lib.hid o9.lt
  obtain ⟨A_9, c_9, rfl, hc9, hm9, u9⟩ := o9.slice i64cells_len
  clear u9
  go_wp2_with fail
  refine (eqInt64S_any _ _ _ _ _ _ _ _ _ (o6_9.sl i64cells_len) (o9.sl i64cells_len)).mono ?_
  rintro e w10 ⟨rfl, b10⟩
  have t10 : Below w.heap.size w w10 := t9.trans (b10.mono t9.size)
  have tb10 : Below (w.alloc (.cells #[.int .i64 m0.rows, .int .i64 m0.columns, .int .i64 m0.size, .slice m0.heightsA m0.heightsN m0.heightsC] 24)).heap.size (w.alloc (.cells #[.int .i64 m0.rows, .int .i64 m0.columns, .int .i64 m0.size, .slice m0.heightsA m0.heightsN m0.heightsC] 24)) w10 := tb9.trans (b10.mono tb9.size)
  have tx10 : Below (w5.alloc (.cells #[.int .i64 p5.rows, .int .i64 p5.columns, .int .i64 p5.size, .slice p5.heightsA p5.heightsN p5.heightsC] 29)).heap.size (w5.alloc (.cells #[.int .i64 p5.rows, .int .i64 p5.columns, .int .i64 p5.size, .slice p5.heightsA p5.heightsN p5.heightsC] 29)) w10 := tx9.trans (b10.mono tx9.size)
  have z10 : Hid (w9.heap.size ≤ w10.heap.size) := b10.size
  have o5_10 := o5_9.below' b10
  have o6_10 := o6_9.below' b10
  have o9_10 := o9.below' b10
  go_wp2
  go_ret
  exact Ret.b rfl t10

end Go.Proofs.Ytlgnclocdblbmaa
