/- The walk of the law FnExactStepGate: it returns true. -/
import Derived.Test.YtlfnkgfkimanaaaStep
namespace Go.Proofs.Ytlfnkgfkimanaaa
open Go.RowKit

set_option maxHeartbeats 2000000 in
theorem walk_FnExactStepGate (x0 : Gate) (a1 : Int) (w : World) (g0 : x0.Good) (_g1 : I64 a1) : Calls Try.prog 9 #[.agg #[.string x0.id, .int .i64 x0.shut, .int .i64 x0.open_, .int .i64 x0.hold, .bool x0.shuts, .int .i64 x0.calm], .int .i64 a1] w (Ret (.bool true) w) := by
  have hs0 : x0.id.size ≤ 9223372036854775807 := by have := g0.2.2.2.2; simp [maxLen] at this; omega
  go_enter Try.func9, Try.ntmps9
  have o0_0 : Own (w.alloc (.cells #[.string x0.id, .int .i64 x0.shut, .int .i64 x0.open_, .int .i64 x0.hold, .bool x0.shuts, .int .i64 x0.calm] 66)) (w.heap.size) 66 #[.string x0.id, .int .i64 x0.shut, .int .i64 x0.open_, .int .i64 x0.hold, .bool x0.shuts, .int .i64 x0.calm] := (Own.new _ _ _)
  have t0 : Below w.heap.size w (w.alloc (.cells #[.string x0.id, .int .i64 x0.shut, .int .i64 x0.open_, .int .i64 x0.hold, .bool x0.shuts, .int .i64 x0.calm] 66)) := (Below.refl _ _).alloc (by simp) _
  go_wp2_with fail
  refine (szGate_any x0 _ _ g0 (by omega) (by omega)).mono ?_
  rintro e w1 ⟨v, rfl, ⟨r1, rfl, q1⟩, b1⟩
  have o0_1 := o0_0.below' b1
  have k0_1_0 : w1.cell? ⟨w.heap.size, 0, none⟩ = some (.string x0.id) := o0_1.cell 0
  have k0_1_1 : w1.cell? ⟨w.heap.size, 1, none⟩ = some (.int .i64 x0.shut) := o0_1.cell 1
  have k0_1_2 : w1.cell? ⟨w.heap.size, 2, none⟩ = some (.int .i64 x0.open_) := o0_1.cell 2
  have k0_1_3 : w1.cell? ⟨w.heap.size, 3, none⟩ = some (.int .i64 x0.hold) := o0_1.cell 3
  have k0_1_4 : w1.cell? ⟨w.heap.size, 4, none⟩ = some (.bool x0.shuts) := o0_1.cell 4
  have k0_1_5 : w1.cell? ⟨w.heap.size, 5, none⟩ = some (.int .i64 x0.calm) := o0_1.cell 5
  have t1 : Below w.heap.size w w1 := t0.trans (b1.mono t0.size)
  by_cases z1 : r1 < 0
  · go_wp2
    go_ret
    exact Ret.b rfl t1
  obtain ⟨y, hy⟩ : ∃ y, stepS x0 a1 = y := ⟨_, rfl⟩
  have HY := Lib.hid hy
  clear hy
  go_wp2_with fail
  refine (toGate_any x0 _).mono ?_
  rintro e w2 ⟨rfl, b2⟩
  clear k0_1_0 k0_1_1 k0_1_2 k0_1_3 k0_1_4 k0_1_5
  have o0_2 := o0_1.below' b2
  have k0_2_0 : w2.cell? ⟨w.heap.size, 0, none⟩ = some (.string x0.id) := o0_2.cell 0
  have k0_2_1 : w2.cell? ⟨w.heap.size, 1, none⟩ = some (.int .i64 x0.shut) := o0_2.cell 1
  have k0_2_2 : w2.cell? ⟨w.heap.size, 2, none⟩ = some (.int .i64 x0.open_) := o0_2.cell 2
  have k0_2_3 : w2.cell? ⟨w.heap.size, 3, none⟩ = some (.int .i64 x0.hold) := o0_2.cell 3
  have k0_2_4 : w2.cell? ⟨w.heap.size, 4, none⟩ = some (.bool x0.shuts) := o0_2.cell 4
  have k0_2_5 : w2.cell? ⟨w.heap.size, 5, none⟩ = some (.int .i64 x0.calm) := o0_2.cell 5
  have t2 : Below w.heap.size w w2 := t1.trans (b2.mono t1.size)
  go_wp2_with fail
  refine (specStepGate_any x0 _ _ hs0).mono ?_
  rintro e w3 ⟨rfl, b3⟩
  clear k0_2_0 k0_2_1 k0_2_2 k0_2_3 k0_2_4 k0_2_5
  have o0_3 := o0_2.below' b3
  have k0_3_0 : w3.cell? ⟨w.heap.size, 0, none⟩ = some (.string x0.id) := o0_3.cell 0
  have k0_3_1 : w3.cell? ⟨w.heap.size, 1, none⟩ = some (.int .i64 x0.shut) := o0_3.cell 1
  have k0_3_2 : w3.cell? ⟨w.heap.size, 2, none⟩ = some (.int .i64 x0.open_) := o0_3.cell 2
  have k0_3_3 : w3.cell? ⟨w.heap.size, 3, none⟩ = some (.int .i64 x0.hold) := o0_3.cell 3
  have k0_3_4 : w3.cell? ⟨w.heap.size, 4, none⟩ = some (.bool x0.shuts) := o0_3.cell 4
  have k0_3_5 : w3.cell? ⟨w.heap.size, 5, none⟩ = some (.int .i64 x0.calm) := o0_3.cell 5
  have t3 : Below w.heap.size w w3 := t2.trans (b3.mono t2.size)
  rw [HY.out]
  unfold Gate.agg
  have al3 : Below w3.heap.size w3 (w3.alloc (.cells #[.string y.id, .int .i64 y.shut, .int .i64 y.open_, .int .i64 y.hold, .bool y.shuts, .int .i64 y.calm] 68)) := (Below.refl _ _).alloc (Nat.le_refl _) _
  have q3_r : Own (w3.alloc (.cells #[.string y.id, .int .i64 y.shut, .int .i64 y.open_, .int .i64 y.hold, .bool y.shuts, .int .i64 y.calm] 68)) w3.heap.size 68 #[.string y.id, .int .i64 y.shut, .int .i64 y.open_, .int .i64 y.hold, .bool y.shuts, .int .i64 y.calm] := Own.new _ _ _
  have p3_t : Below w.heap.size w (w3.alloc (.cells #[.string y.id, .int .i64 y.shut, .int .i64 y.open_, .int .i64 y.hold, .bool y.shuts, .int .i64 y.calm] 68)) := t3.trans (al3.mono t3.size)
  have hz3 : w.heap.size < w3.heap.size := o0_3.lt
  have p3_o0 := o0_3.below' al3
  go_wp2_with fail
  refine (toGate_any x0 _).mono ?_
  rintro e w4 ⟨rfl, b4⟩
  clear k0_3_0 k0_3_1 k0_3_2 k0_3_3 k0_3_4 k0_3_5
  have o0_4 := p3_o0.below' b4
  have k0_4_0 : w4.cell? ⟨w.heap.size, 0, none⟩ = some (.string x0.id) := o0_4.cell 0
  have k0_4_1 : w4.cell? ⟨w.heap.size, 1, none⟩ = some (.int .i64 x0.shut) := o0_4.cell 1
  have k0_4_2 : w4.cell? ⟨w.heap.size, 2, none⟩ = some (.int .i64 x0.open_) := o0_4.cell 2
  have k0_4_3 : w4.cell? ⟨w.heap.size, 3, none⟩ = some (.int .i64 x0.hold) := o0_4.cell 3
  have k0_4_4 : w4.cell? ⟨w.heap.size, 4, none⟩ = some (.bool x0.shuts) := o0_4.cell 4
  have k0_4_5 : w4.cell? ⟨w.heap.size, 5, none⟩ = some (.int .i64 x0.calm) := o0_4.cell 5
  have t4 : Below w.heap.size w w4 := p3_t.trans (b4.mono p3_t.size)
  have x4_e0 := q3_r.below' b4
  go_wp2_with fail
  refine (implStepGate_any x0 _ _ hs0).mono ?_
  rintro e w5 ⟨rfl, b5⟩
  clear k0_4_0 k0_4_1 k0_4_2 k0_4_3 k0_4_4 k0_4_5
  have o0_5 := o0_4.below' b5
  have k0_5_0 : w5.cell? ⟨w.heap.size, 0, none⟩ = some (.string x0.id) := o0_5.cell 0
  have k0_5_1 : w5.cell? ⟨w.heap.size, 1, none⟩ = some (.int .i64 x0.shut) := o0_5.cell 1
  have k0_5_2 : w5.cell? ⟨w.heap.size, 2, none⟩ = some (.int .i64 x0.open_) := o0_5.cell 2
  have k0_5_3 : w5.cell? ⟨w.heap.size, 3, none⟩ = some (.int .i64 x0.hold) := o0_5.cell 3
  have k0_5_4 : w5.cell? ⟨w.heap.size, 4, none⟩ = some (.bool x0.shuts) := o0_5.cell 4
  have k0_5_5 : w5.cell? ⟨w.heap.size, 5, none⟩ = some (.int .i64 x0.calm) := o0_5.cell 5
  have t5 : Below w.heap.size w w5 := t4.trans (b5.mono t4.size)
  have x5_e0 := x4_e0.below' b5
  rw [HY.out]
  unfold Gate.agg
  have al5 : Below w5.heap.size w5 (w5.alloc (.cells #[.string y.id, .int .i64 y.shut, .int .i64 y.open_, .int .i64 y.hold, .bool y.shuts, .int .i64 y.calm] 68)) := (Below.refl _ _).alloc (Nat.le_refl _) _
  have q5_r : Own (w5.alloc (.cells #[.string y.id, .int .i64 y.shut, .int .i64 y.open_, .int .i64 y.hold, .bool y.shuts, .int .i64 y.calm] 68)) w5.heap.size 68 #[.string y.id, .int .i64 y.shut, .int .i64 y.open_, .int .i64 y.hold, .bool y.shuts, .int .i64 y.calm] := Own.new _ _ _
  have p5_t : Below w.heap.size w (w5.alloc (.cells #[.string y.id, .int .i64 y.shut, .int .i64 y.open_, .int .i64 y.hold, .bool y.shuts, .int .i64 y.calm] 68)) := t5.trans (al5.mono t5.size)
  have hz5 : w.heap.size < w5.heap.size := o0_5.lt
  have p5_o0 := o0_5.below' al5
  have p5_e0 := x5_e0.below' al5
  have z0_0 : (w5.alloc (.cells #[.string y.id, .int .i64 y.shut, .int .i64 y.open_, .int .i64 y.hold, .bool y.shuts, .int .i64 y.calm] 68)).cell? ⟨w3.heap.size, 0, none⟩ = some (.string y.id) := p5_e0.cell 0
  have z0_1 : (w5.alloc (.cells #[.string y.id, .int .i64 y.shut, .int .i64 y.open_, .int .i64 y.hold, .bool y.shuts, .int .i64 y.calm] 68)).cell? ⟨w3.heap.size, 1, none⟩ = some (.int .i64 y.shut) := p5_e0.cell 1
  have z0_2 : (w5.alloc (.cells #[.string y.id, .int .i64 y.shut, .int .i64 y.open_, .int .i64 y.hold, .bool y.shuts, .int .i64 y.calm] 68)).cell? ⟨w3.heap.size, 2, none⟩ = some (.int .i64 y.open_) := p5_e0.cell 2
  have z0_3 : (w5.alloc (.cells #[.string y.id, .int .i64 y.shut, .int .i64 y.open_, .int .i64 y.hold, .bool y.shuts, .int .i64 y.calm] 68)).cell? ⟨w3.heap.size, 3, none⟩ = some (.int .i64 y.hold) := p5_e0.cell 3
  have z0_4 : (w5.alloc (.cells #[.string y.id, .int .i64 y.shut, .int .i64 y.open_, .int .i64 y.hold, .bool y.shuts, .int .i64 y.calm] 68)).cell? ⟨w3.heap.size, 4, none⟩ = some (.bool y.shuts) := p5_e0.cell 4
  have z0_5 : (w5.alloc (.cells #[.string y.id, .int .i64 y.shut, .int .i64 y.open_, .int .i64 y.hold, .bool y.shuts, .int .i64 y.calm] 68)).cell? ⟨w3.heap.size, 5, none⟩ = some (.int .i64 y.calm) := p5_e0.cell 5
  have z1_0 : (w5.alloc (.cells #[.string y.id, .int .i64 y.shut, .int .i64 y.open_, .int .i64 y.hold, .bool y.shuts, .int .i64 y.calm] 68)).cell? ⟨w5.heap.size, 0, none⟩ = some (.string y.id) := q5_r.cell 0
  have z1_1 : (w5.alloc (.cells #[.string y.id, .int .i64 y.shut, .int .i64 y.open_, .int .i64 y.hold, .bool y.shuts, .int .i64 y.calm] 68)).cell? ⟨w5.heap.size, 1, none⟩ = some (.int .i64 y.shut) := q5_r.cell 1
  have z1_2 : (w5.alloc (.cells #[.string y.id, .int .i64 y.shut, .int .i64 y.open_, .int .i64 y.hold, .bool y.shuts, .int .i64 y.calm] 68)).cell? ⟨w5.heap.size, 2, none⟩ = some (.int .i64 y.open_) := q5_r.cell 2
  have z1_3 : (w5.alloc (.cells #[.string y.id, .int .i64 y.shut, .int .i64 y.open_, .int .i64 y.hold, .bool y.shuts, .int .i64 y.calm] 68)).cell? ⟨w5.heap.size, 3, none⟩ = some (.int .i64 y.hold) := q5_r.cell 3
  have z1_4 : (w5.alloc (.cells #[.string y.id, .int .i64 y.shut, .int .i64 y.open_, .int .i64 y.hold, .bool y.shuts, .int .i64 y.calm] 68)).cell? ⟨w5.heap.size, 4, none⟩ = some (.bool y.shuts) := q5_r.cell 4
  have z1_5 : (w5.alloc (.cells #[.string y.id, .int .i64 y.shut, .int .i64 y.open_, .int .i64 y.hold, .bool y.shuts, .int .i64 y.calm] 68)).cell? ⟨w5.heap.size, 5, none⟩ = some (.int .i64 y.calm) := q5_r.cell 5
  have zlt : w3.heap.size < w5.heap.size := Nat.lt_of_lt_of_le q3_r.lt (Nat.le_trans (Nat.le_refl _) (by first | exact b5.size | (have := b5.size; have := b4.size; omega)))
  go_wp2_with fail
  refine (eqGate_any _ _ _).mono ?_
  rintro e wz ⟨rfl, bz⟩
  rw [Gate.eqB_self]
  have tz := p5_t.trans (bz.mono p5_t.size)
  go_wp2
  go_ret
  exact Ret.b rfl tz

end Go.Proofs.Ytlfnkgfkimanaaa
