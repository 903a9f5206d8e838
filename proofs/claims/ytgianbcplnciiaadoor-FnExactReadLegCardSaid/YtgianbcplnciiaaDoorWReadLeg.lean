/- The law FnExactReadLeg: both functions read one leg. -/
import Derived.Test.YtgianbcplnciiaaDoorSReadLeg
namespace Go.Proofs.YtgianbcplnciiaaDoor
open Go.RowKit

def legD (r : Option Leg) : Leg := r.getD ⟨0, 0, 0, 0⟩
theorem legOf_eq (r : Option Leg) : legOf r = .agg #[.int .i64 (legD r).from_, .int .i64 (legD r).to_, .int .i64 (legD r).minutes, .int .i64 (legD r).exposure] := by cases r <;> rfl
set_option maxRecDepth 100000 in
set_option maxHeartbeats 2000000 in
theorem walk_FnExactReadLeg (s : ByteArray) (w : World) (ht : LibAt w.heap.size w) : Calls Tryd.prog 5 #[.string s] w (Ret (.bool true) w) := by
  by_cases hs : 1048576 < s.size
  · go_enter Tryd.func5, Tryd.ntmps5
    go_wp2
    all_goals (go_ret; exact Ret.b rfl (Below.refl _ _))
  have hs2 : s.size ≤ 1048576 := by omega
  have hs3 : decide ((1048576 : Int) < (s.size : Int)) = false := decide_eq_false (by omega)
  have HT := Lib.hid ht
  clear ht hs
  go_enter Tryd.func5, Tryd.ntmps5
  go_wp2_with fail
  refine (specReadLeg_any s w hs2).mono ?_
  rintro e w1 ⟨r, rfl, hr, hb⟩
  rw [legOf_eq]
  have HR1 := Lib.hid hr
  have HB1 := Lib.hid hb
  have HT1 := Lib.hid (HT.out.grow hb)
  clear hr hb
  obtain ⟨x, hx⟩ : ∃ x, legD r = x := ⟨_, rfl⟩
  obtain ⟨q, hq⟩ : ∃ q, r.isSome = q := ⟨_, rfl⟩
  rw [hx, hq]
  have HX := Lib.hid hx
  have HQ := Lib.hid hq
  clear hx hq
  obtain ⟨X, hX⟩ : ∃ X, w1.heap.size = X := ⟨_, rfl⟩
  obtain ⟨w2, hw2⟩ : ∃ w2, w1.alloc (.cells #[.int .i64 x.from_, .int .i64 x.to_, .int .i64 x.minutes, .int .i64 x.exposure] 25) = w2 := ⟨_, rfl⟩
  have hb2 : Below w1.heap.size w1 w2 := by rw [← hw2]; exact (Below.refl _ _).alloc (Nat.le_refl _) _
  have HO2 : Hid (Own w2 X 25 #[.int .i64 x.from_, .int .i64 x.to_, .int .i64 x.minutes, .int .i64 x.exposure]) := by rw [Hid, ← hw2, ← hX]; exact Own.new _ _ _
  have HT2 := Lib.hid (HT1.out.grow hb2)
  have HB2 := Lib.hid (HB1.out.trans (hb2.mono HB1.out.size))
  have HW2 := Lib.hid hw2
  have HX2 := Lib.hid hX
  clear hb2 hw2 hX
  go_wp2_with fail
  rw [HW2.out, HX2.out]
  refine (implReadLeg_any s w2 hs2 HT2.out).mono ?_
  rintro e w3 ⟨r2, rfl, hr, hb⟩
  obtain rfl : r2 = r := hr.uniq HR1.out
  rw [legOf_eq, HX.out, HQ.out]
  have HO3 := Lib.hid (HO2.out.below' hb)
  have HB3 := Lib.hid (HB2.out.trans (hb.mono HB2.out.size))
  clear hr hb
  have c0 := HO3.out.cell 0
  have c1 := HO3.out.cell 1
  have c2 := HO3.out.cell 2
  have c3 := HO3.out.cell 3
  have lx := HO3.out.lt
  simp at c0 c1 c2 c3
  obtain ⟨w4, hw4⟩ : ∃ w4, w3.alloc (.cells #[.int .i64 x.from_, .int .i64 x.to_, .int .i64 x.minutes, .int .i64 x.exposure] 25) = w4 := ⟨_, rfl⟩
  have hb4 : Below w3.heap.size w3 w4 := by rw [← hw4]; exact (Below.refl _ _).alloc (Nat.le_refl _) _
  have HB4 := Lib.hid (HB3.out.trans (hb4.mono HB3.out.size))
  have HW4 := Lib.hid hw4
  clear hb4 hw4
  cases q
  all_goals
    go_wp2_with fail
    rw [HW4.out]
    refine (eqLeg_any x x w4).mono ?_
    rintro e w5 ⟨rfl, hb⟩
    rw [Leg.eqB_self]
    have HB5 := Lib.hid (HB4.out.trans (hb.mono HB4.out.size))
    clear hb
    go_wp2
    go_ret
    exact Ret.b rfl HB5.out

end Go.Proofs.YtgianbcplnciiaaDoor
