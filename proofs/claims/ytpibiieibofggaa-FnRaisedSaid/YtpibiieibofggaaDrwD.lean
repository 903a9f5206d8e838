/- The draws of FnRaised. -/
import Derived.Test.YtpibiieibofggaaDrwC
namespace Go.Proofs.Ytpibiieibofggaa
open Go.RowKit

set_option maxHeartbeats 2000000 in
theorem drawRaise_any (A : Option Addr) (n c : Nat) (ds : List Int) (w : World) (hs : SliceOf w 1 u8cells A n ds) (hb : ∀ x ∈ ds, 0 ≤ x ∧ x ≤ 255) :
    Calls Try.prog 6 #[.slice A n c] w (fun e w' => ∃ (VA : Option Addr) (vc : Nat) (L : List Region) (most budget : Int), e = .returned (.tuple #[.slice VA L.length vc, .int .i64 most, .int .i64 budget]) ∧ Region.Sl w' VA L.length L ∧ (∀ x ∈ L, x.Good) ∧ Below w.heap.size w w') := by
  go_enter Try.func6, Try.ntmps6
  go_wp2_with fail
  refine (srcFrom_any A n c ds w hs hb).mono ?_
  rintro e w1 ⟨bs, rfl, hs1, hb1⟩
  have HB1 := Lib.hid hb1
  have HBS : Hid (w.heap.size ≤ bs) := hs1.base
  have HLT : Hid (bs < w1.heap.size) := hs1.lt
  clear hs hb hb1
  go_wp2_with fail
  refine (l18Draw_any A n c ds bs 0 w w1 hs1 (by omega)).mono ?_
  rintro e w2 ⟨v, L, k2, rfl, hk2, hs2, ho2, hd2, hz2⟩
  have HS2 := Lib.hid hs2
  have HD2 := Lib.hid hd2
  have HO2 := Lib.hid ho2
  obtain ⟨VA, vc, rfl, _, _, _⟩ := ho2.slice
  clear hs1 hs2 hd2 ho2
  have HB3 : Hid (Below w2.heap.size w2 (w2.alloc (.cells #[.int .i64 1, .int .i64 2, .int .i64 3, .int .i64 4, .int .i64 8, .int .i64 9, .int .i64 0, .int .i64 (-1)] 2))) := (Below.refl _ _).alloc (Nat.le_refl _) _
  have HX3 := Lib.hid (sliceAll (n := 8) (xs := [1, 2, 3, 4, 8, 9, 0, -1]) (cells := i64cells) i64cells_len (Own.new w2 2 #[.int .i64 1, .int .i64 2, .int .i64 3, .int .i64 4, .int .i64 8, .int .i64 9, .int .i64 0, .int .i64 (-1)]) rfl rfl (by decide))
  have HS3 := Lib.hid (HS2.out.grow HB3.out)
  have HO3 := Lib.hid (HO2.out.below' HB3.out)
  go_wp2_with fail
  refine (srcAmong_any A n c ds bs k2 8 8 w2.heap.size 0 _ w _ HS3.out (by omega) (by omega) (by omega) HX3.out (by have := HLT.out; omega)).mono ?_
  rintro e w4 ⟨most, k4, rfl, _, hk4, hs4, ha4⟩
  have HS4 := Lib.hid hs4
  have HO4 := Lib.hid (HO3.out.span ha4 (by have := HLT.out; omega))
  have HZ4 : Hid (w1.heap.size ≤ w4.heap.size) := Nat.le_trans hz2 (Nat.le_trans HB3.out.size ha4.size)
  clear hs4 ha4
  have HB5 : Hid (Below w4.heap.size w4 (w4.alloc (.cells #[.int .i64 1, .int .i64 20, .int .i64 200, .int .i64 2000, .int .i64 20000, .int .i64 0, .int .i64 20001] 2))) := (Below.refl _ _).alloc (Nat.le_refl _) _
  have HX5 := Lib.hid (sliceAll (n := 7) (xs := [1, 20, 200, 2000, 20000, 0, 20001]) (cells := i64cells) i64cells_len (Own.new w4 2 #[.int .i64 1, .int .i64 20, .int .i64 200, .int .i64 2000, .int .i64 20000, .int .i64 0, .int .i64 20001]) rfl rfl (by decide))
  have HS5 := Lib.hid (HS4.out.grow HB5.out)
  have HO5 := Lib.hid (HO4.out.below' HB5.out)
  go_wp2_with fail
  refine (srcAmong_any A n c ds bs k4 7 7 w4.heap.size 0 _ w _ HS5.out (by omega) (by omega) (by omega) HX5.out (by have := HLT.out; have := HZ4.out; omega)).mono ?_
  rintro e w6 ⟨budget, k6, rfl, _, hk6, hs6, ha6⟩
  have HO6 := Lib.hid (HO5.out.span ha6 (by have := HLT.out; omega))
  have HB6 : Hid (Below w.heap.size w w6) := hs6.below
  clear hs6 ha6
  go_wp2
  refine bodyPost_ret (v := .tuple #[.slice VA L.length vc, .int .i64 most, .int .i64 budget]) (by simp [results, Try.results6, go_sem]) rfl ?_
  exact ⟨VA, vc, L, most, budget, rfl, HO6.out.sl, fun x hx => (HD2.out.good x hx).1, HB6.out⟩
set_option maxHeartbeats 2000000 in
theorem drawJumps_any (A : Option Addr) (n c : Nat) (ds : List Int) (w : World) (hs : SliceOf w 1 u8cells A n ds) (hb : ∀ x ∈ ds, 0 ≤ x ∧ x ≤ 255) :
    Calls Try.prog 11 #[.slice A n c] w (fun e w' => ∃ (VA : Option Addr) (vc : Nat) (L : List Region) (least : Int), e = .returned (.tuple #[.slice VA L.length vc, .int .i64 least]) ∧ Region.Sl w' VA L.length L ∧ (∀ x ∈ L, x.Good) ∧ Below w.heap.size w w') := by
  go_enter Try.func11, Try.ntmps11
  go_wp2_with fail
  refine (srcFrom_any A n c ds w hs hb).mono ?_
  rintro e w1 ⟨bs, rfl, hs1, hb1⟩
  have HB1 := Lib.hid hb1
  have HLT : Hid (bs < w1.heap.size) := hs1.lt
  clear hs hb hb1
  go_wp2_with fail
  refine (l18Draw_any A n c ds bs 0 w w1 hs1 (by omega)).mono ?_
  rintro e w2 ⟨v, L, k2, rfl, hk2, hs2, ho2, hd2, hz2⟩
  have HS2 := Lib.hid hs2
  have HD2 := Lib.hid hd2
  have HO2 := Lib.hid ho2
  obtain ⟨VA, vc, rfl, _, _, _⟩ := ho2.slice
  clear hs1 hs2 hd2 ho2
  go_wp2_with fail
  refine (srcPick_any A n c ds bs k2 7 w w2 HS2.out (by omega) (by omega) (by omega)).mono ?_
  rintro e w4 ⟨q, k4, rfl, hq, hk4, hs4, ha4⟩
  have HO4 := Lib.hid (HO2.out.span ha4 (by have := HLT.out; omega))
  have HB4 : Hid (Below w.heap.size w w4) := hs4.below
  clear hs4 ha4
  go_wp2
  refine bodyPost_ret (v := .tuple #[.slice VA L.length vc, .int .i64 ((q : Int) - 1)]) (by simp [results, Try.results11, go_sem]) rfl ?_
  exact ⟨VA, vc, L, _, rfl, HO4.out.sl, fun x hx => (HD2.out.good x hx).1, HB4.out⟩
set_option maxHeartbeats 400000 in
theorem b10LongB_any (A : Option Addr) (n c : Nat) (w : World) (hn : n ≤ 9223372036854775807) : Calls Try.prog 5 #[.slice A n c] w (RetS (.bool (decide (1048576 < n))) w) := by
  go_enter Try.func5, Try.ntmps5
  by_cases h1 : 1048576 < n
  · have HD : Hid (decide (1048576 < n) = true) := decide_eq_true h1
    go_wp2
    go_ret
    exact RetS.b (by first | rfl | exact HD.out.symm | (rw [HD.out]; exact decide_eq_true (by omega)) | (rw [HD.out]; exact decide_eq_false (by omega)))
  · have HD : Hid (decide (1048576 < n) = false) := decide_eq_false h1
    go_wp2
    go_ret
    exact RetS.b (by first | rfl | exact HD.out.symm | (rw [HD.out]; exact decide_eq_true (by omega)) | (rw [HD.out]; exact decide_eq_false (by omega)))

end Go.Proofs.Ytpibiieibofggaa
