/- The walk of the law FnExactClassOf: it returns true. -/
import Derived.Test.YtokakabckjmfoaaClassOf
namespace Go.Proofs.Ytokakabckjmfoaa
open Go.RowKit

set_option maxHeartbeats 2000000 in
theorem walk_FnExactClassOf (x0 : Test) (w : World) (_g0 : x0.Good) : Calls Try.prog 10 #[.agg #[.int .i64 x0.kind, .int .i64 x0.score, .int .i64 x0.quality, .int .i64 x0.depth, .int .i64 x0.hour]] w (Ret (.bool true) w) := by
  go_enter Try.func10, Try.ntmps10
  have o0_0 : Own (w.alloc (.cells #[.int .i64 x0.kind, .int .i64 x0.score, .int .i64 x0.quality, .int .i64 x0.depth, .int .i64 x0.hour] 62)) (w.heap.size) 62 #[.int .i64 x0.kind, .int .i64 x0.score, .int .i64 x0.quality, .int .i64 x0.depth, .int .i64 x0.hour] := (Own.new _ _ _)
  have t0 : Below w.heap.size w (w.alloc (.cells #[.int .i64 x0.kind, .int .i64 x0.score, .int .i64 x0.quality, .int .i64 x0.depth, .int .i64 x0.hour] 62)) := (Below.refl _ _).alloc (by simp) _
  go_wp2_with fail
  refine (toTest_any x0 _).mono ?_
  rintro e w1 ⟨rfl, b1⟩
  have o0_1 := o0_0.below' b1
  have k0_1_0 : w1.cell? ⟨w.heap.size, 0, none⟩ = some (.int .i64 x0.kind) := o0_1.cell 0
  have k0_1_1 : w1.cell? ⟨w.heap.size, 1, none⟩ = some (.int .i64 x0.score) := o0_1.cell 1
  have k0_1_2 : w1.cell? ⟨w.heap.size, 2, none⟩ = some (.int .i64 x0.quality) := o0_1.cell 2
  have k0_1_3 : w1.cell? ⟨w.heap.size, 3, none⟩ = some (.int .i64 x0.depth) := o0_1.cell 3
  have k0_1_4 : w1.cell? ⟨w.heap.size, 4, none⟩ = some (.int .i64 x0.hour) := o0_1.cell 4
  have t1 : Below w.heap.size w w1 := t0.trans (b1.mono t0.size)
  go_wp2_with fail
  refine (specClassOf_any x0 _).mono ?_
  rintro e w2 ⟨rfl, b2⟩
  clear k0_1_0 k0_1_1 k0_1_2 k0_1_3 k0_1_4
  have o0_2 := o0_1.below' b2
  have k0_2_0 : w2.cell? ⟨w.heap.size, 0, none⟩ = some (.int .i64 x0.kind) := o0_2.cell 0
  have k0_2_1 : w2.cell? ⟨w.heap.size, 1, none⟩ = some (.int .i64 x0.score) := o0_2.cell 1
  have k0_2_2 : w2.cell? ⟨w.heap.size, 2, none⟩ = some (.int .i64 x0.quality) := o0_2.cell 2
  have k0_2_3 : w2.cell? ⟨w.heap.size, 3, none⟩ = some (.int .i64 x0.depth) := o0_2.cell 3
  have k0_2_4 : w2.cell? ⟨w.heap.size, 4, none⟩ = some (.int .i64 x0.hour) := o0_2.cell 4
  have t2 : Below w.heap.size w w2 := t1.trans (b2.mono t1.size)
  go_wp2_with fail
  refine (toTest_any x0 _).mono ?_
  rintro e w3 ⟨rfl, b3⟩
  clear k0_2_0 k0_2_1 k0_2_2 k0_2_3 k0_2_4
  have o0_3 := o0_2.below' b3
  have k0_3_0 : w3.cell? ⟨w.heap.size, 0, none⟩ = some (.int .i64 x0.kind) := o0_3.cell 0
  have k0_3_1 : w3.cell? ⟨w.heap.size, 1, none⟩ = some (.int .i64 x0.score) := o0_3.cell 1
  have k0_3_2 : w3.cell? ⟨w.heap.size, 2, none⟩ = some (.int .i64 x0.quality) := o0_3.cell 2
  have k0_3_3 : w3.cell? ⟨w.heap.size, 3, none⟩ = some (.int .i64 x0.depth) := o0_3.cell 3
  have k0_3_4 : w3.cell? ⟨w.heap.size, 4, none⟩ = some (.int .i64 x0.hour) := o0_3.cell 4
  have t3 : Below w.heap.size w w3 := t2.trans (b3.mono t2.size)
  go_wp2_with fail
  refine (implClassOf_any x0 _).mono ?_
  rintro e w4 ⟨rfl, b4⟩
  clear k0_3_0 k0_3_1 k0_3_2 k0_3_3 k0_3_4
  have o0_4 := o0_3.below' b4
  have k0_4_0 : w4.cell? ⟨w.heap.size, 0, none⟩ = some (.int .i64 x0.kind) := o0_4.cell 0
  have k0_4_1 : w4.cell? ⟨w.heap.size, 1, none⟩ = some (.int .i64 x0.score) := o0_4.cell 1
  have k0_4_2 : w4.cell? ⟨w.heap.size, 2, none⟩ = some (.int .i64 x0.quality) := o0_4.cell 2
  have k0_4_3 : w4.cell? ⟨w.heap.size, 3, none⟩ = some (.int .i64 x0.depth) := o0_4.cell 3
  have k0_4_4 : w4.cell? ⟨w.heap.size, 4, none⟩ = some (.int .i64 x0.hour) := o0_4.cell 4
  have t4 : Below w.heap.size w w4 := t3.trans (b4.mono t3.size)
  go_wp2
  go_ret
  exact Ret.b rfl t4

end Go.Proofs.Ytokakabckjmfoaa
