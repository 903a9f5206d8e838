/- The text of a leg: the program's and the reference's functions return one string. -/
import Derived.Test.YtgianbcplnciiaaDoorDec
import Derived.Test.YtgianbcplnciiaaDoorLegs
namespace Go.Proofs.YtgianbcplnciiaaDoor
open Go.RowKit

def legText (x : Leg) : ByteArray := (((((dec x.from_ ++ ⟨#[45]⟩) ++ dec x.to_) ++ ⟨#[32]⟩) ++ dec x.minutes) ++ ⟨#[33]⟩) ++ dec x.exposure
def legTextA (x : Leg) : ByteArray := if x.oneB 12 = true then legText x else ⟨#[]⟩
theorem Leg.one_bd {x : Leg} (h : x.oneB 12 = true) : I64 x.from_ ∧ I64 x.to_ ∧ I64 x.minutes ∧ I64 x.exposure := by
  unfold Leg.oneB at h
  simp only [Bool.and_eq_true, inB_iff] at h
  unfold I64
  omega
theorem dec_sizes {a b : Int} (ha : I64 a) (hb : I64 b) : (dec a).size ≤ 21 ∧ (dec b).size ≤ 21 := ⟨dec_size ha, dec_size hb⟩
set_option maxHeartbeats 1000000 in
theorem implLegText_any (x : Leg) (w : World) (ht : TabAt w.heap.size w) : Calls Tryd.prog 9 #[.agg #[.int .i64 x.from_, .int .i64 x.to_, .int .i64 x.minutes, .int .i64 x.exposure]] w (Ret (.string (legTextA x)) w) := by
  obtain ⟨w1, hw1⟩ : ∃ w1, w.alloc (.cells #[.int .i64 x.from_, .int .i64 x.to_, .int .i64 x.minutes, .int .i64 x.exposure] 25) = w1 := ⟨_, rfl⟩
  obtain ⟨X, hX⟩ : ∃ X, w.heap.size = X := ⟨_, rfl⟩
  have hb1 : Below w.heap.size w w1 := by rw [← hw1]; exact (Below.refl _ _).alloc (Nat.le_refl _) _
  have HO1 : Hid (Own w1 X 25 #[.int .i64 x.from_, .int .i64 x.to_, .int .i64 x.minutes, .int .i64 x.exposure]) := by rw [Hid, ← hw1, ← hX]; exact Own.new _ _ _
  have HB1 := Lib.hid hb1
  have HT := Lib.hid (ht.grow hb1)
  have y0 := HO1.out.cell 0
  have y1 := HO1.out.cell 1
  have y2 := HO1.out.cell 2
  have y3 := HO1.out.cell 3
  have ly := HO1.out.lt
  simp at y0 y1 y2 y3
  clear ht hb1
  cases ho : x.oneB 12
  · have HA : Hid (legTextA x = ⟨#[]⟩) := by rw [Hid]; unfold legTextA; simp [ho]
    go_enter Tryd.func9, Tryd.ntmps9
    go_wp2_with fail
    refine (fits_any x 12 _ (by decide) (by decide)).mono ?_
    rintro e w2 ⟨rfl, hb2⟩
    rw [ho]
    have HB2 := Lib.hid (HB1.out.trans (hb2.mono HB1.out.size))
    clear hb2 y0 y1 y2 y3 ly hw1 ho
    go_wp2
    go_ret
    exact Ret.mk (by rw [HA.out]; rfl) HB2.out
  have HA : Hid (legTextA x = legText x) := by rw [Hid]; unfold legTextA; simp [ho]
  have hbd := Leg.one_bd ho
  have HBD := Lib.hid hbd
  have z0 := dec_size hbd.1
  have z1 := dec_size hbd.2.1
  have z2 := dec_size hbd.2.2.1
  have z3 := dec_size hbd.2.2.2
  clear hbd
  go_enter Tryd.func9, Tryd.ntmps9
  go_wp2_with fail
  refine (fits_any x 12 _ (by decide) (by decide)).mono ?_
  rintro e w2 ⟨rfl, hb2⟩
  rw [ho]
  have HB2 := Lib.hid (HB1.out.trans (hb2.mono HB1.out.size))
  have HO2 := Lib.hid (HO1.out.below' hb2)
  have HT2 := Lib.hid (HT.out.grow hb2)
  clear hb2 y0 y1 y2 y3 ly hw1 ho
  have y0 := HO2.out.cell 0
  have y1 := HO2.out.cell 1
  have y2 := HO2.out.cell 2
  have y3 := HO2.out.cell 3
  have ly := HO2.out.lt
  simp at y0 y1 y2 y3
  have hsub := fun (g : Sub w2) b o (h : b < w2.heap.size) => g.cell b o h
  go_wp2_with fail
  refine wp_region_sub (by kernel_rfl) (by kernel_rfl) ?_
  repeat (go_big_quiet_step (first | exact Calls.sub_of (implDecimal_any _ _ HBD.out.1 (HT2.out.grow (Sub.below _))) | exact Calls.sub_of (implDecimal_any _ _ HBD.out.2.1 (HT2.out.grow (Sub.below _))) | exact Calls.sub_of (implDecimal_any _ _ HBD.out.2.2.1 (HT2.out.grow (Sub.below _))) | exact Calls.sub_of (implDecimal_any _ _ HBD.out.2.2.2 (HT2.out.grow (Sub.below _)))))
  refine wpQuiet_nil ?_
  intro wg hg
  have HB3 := Lib.hid (HB2.out.trans (hg.mono HB2.out.size))
  clear hg hsub y0 y1 y2 y3 ly
  go_wp2
  go_ret
  exact Ret.mk (by rw [HA.out]; rfl) HB3.out
set_option maxHeartbeats 1000000 in
theorem l23Text_any (x : Leg) (b off : Nat) (w : World) (hb : b < w.heap.size) (y0 : w.cell? ⟨b, off, none⟩ = some (.int .i64 x.from_)) (y1 : w.cell? ⟨b, off + 1, none⟩ = some (.int .i64 x.to_)) (y2 : w.cell? ⟨b, off + 2, none⟩ = some (.int .i64 x.minutes)) (y3 : w.cell? ⟨b, off + 3, none⟩ = some (.int .i64 x.exposure)) (hbd : I64 x.from_ ∧ I64 x.to_ ∧ I64 x.minutes ∧ I64 x.exposure) :
    Calls Tryd.prog 23 #[.pointer (some ⟨b, off, none⟩)] w (Ret (.string (legText x)) w) := by
  have HBD := Lib.hid hbd
  have z0 := dec_size hbd.1
  have z1 := dec_size hbd.2.1
  have z2 := dec_size hbd.2.2.1
  have z3 := dec_size hbd.2.2.2
  have hsub := fun (g : Sub w) b o (h : b < w.heap.size) => g.cell b o h
  clear hbd
  go_enter Tryd.func23, Tryd.ntmps23
  go_wp2_with fail
  refine wp_region_sub (by kernel_rfl) (by kernel_rfl) ?_
  repeat (go_big_quiet_step (first | exact Calls.sub_of (l01Dec_any _ _ HBD.out.1) | exact Calls.sub_of (l01Dec_any _ _ HBD.out.2.1) | exact Calls.sub_of (l01Dec_any _ _ HBD.out.2.2.1) | exact Calls.sub_of (l01Dec_any _ _ HBD.out.2.2.2)))
  refine wpQuiet_nil ?_
  intro wg hg
  have HB := Lib.hid hg
  clear hg hsub y0 y1 y2 y3
  go_wp2
  go_ret
  exact Ret.mk rfl HB.out
set_option maxHeartbeats 1000000 in
theorem specLegText_any (x : Leg) (w : World) : Calls Tryd.prog 7 #[.agg #[.int .i64 x.from_, .int .i64 x.to_, .int .i64 x.minutes, .int .i64 x.exposure]] w (Ret (.string (legTextA x)) w) := by
  obtain ⟨w1, hw1⟩ : ∃ w1, w.alloc (.cells #[.int .i64 x.from_, .int .i64 x.to_, .int .i64 x.minutes, .int .i64 x.exposure] 25) = w1 := ⟨_, rfl⟩
  obtain ⟨X, hX⟩ : ∃ X, w.heap.size = X := ⟨_, rfl⟩
  have hb1 : Below w.heap.size w w1 := by rw [← hw1]; exact (Below.refl _ _).alloc (Nat.le_refl _) _
  have HO1 : Hid (Own w1 X 25 #[.int .i64 x.from_, .int .i64 x.to_, .int .i64 x.minutes, .int .i64 x.exposure]) := by rw [Hid, ← hw1, ← hX]; exact Own.new _ _ _
  have HB1 := Lib.hid hb1
  have y0 := HO1.out.cell 0
  have y1 : w1.cell? ⟨X, 0 + 1, none⟩ = _ := HO1.out.cell 1
  have y2 : w1.cell? ⟨X, 0 + 2, none⟩ = _ := HO1.out.cell 2
  have y3 : w1.cell? ⟨X, 0 + 3, none⟩ = _ := HO1.out.cell 3
  have ly := HO1.out.lt
  simp only [List.getElem?_toArray, List.getElem?_cons_zero, List.getElem?_cons_succ] at y0 y1 y2 y3
  have HCC := Lib.hid (l23One_any x X 0 12 w1 ly y0 y1 y2 y3)
  rw [Leg.oneW_eq (p := 12) (by decide)] at HCC
  clear hb1 y0 y1 y2 y3
  cases ho : x.oneB 12
  · have HA : Hid (legTextA x = ⟨#[]⟩) := by rw [Hid]; unfold legTextA; simp [ho]
    go_enter Tryd.func7, Tryd.ntmps7
    go_wp2_with fail
    refine HCC.out.mono ?_
    rintro e w2 ⟨rfl, hb2⟩
    rw [ho]
    have HB2 := Lib.hid (HB1.out.trans (hb2.mono HB1.out.size))
    clear hb2 hw1 ho
    go_wp2
    go_ret
    exact Ret.mk (by rw [HA.out]; rfl) HB2.out
  have HA : Hid (legTextA x = legText x) := by rw [Hid]; unfold legTextA; simp [ho]
  have HBD := Lib.hid (Leg.one_bd ho)
  go_enter Tryd.func7, Tryd.ntmps7
  go_wp2_with fail
  refine HCC.out.mono ?_
  rintro e w2 ⟨rfl, hb2⟩
  rw [ho]
  have HB2 := Lib.hid (HB1.out.trans (hb2.mono HB1.out.size))
  have HO2 := Lib.hid (HO1.out.below' hb2)
  clear hb2 hw1 ho
  have y0 := HO2.out.cell 0
  have y1 : w2.cell? ⟨X, 0 + 1, none⟩ = _ := HO2.out.cell 1
  have y2 : w2.cell? ⟨X, 0 + 2, none⟩ = _ := HO2.out.cell 2
  have y3 : w2.cell? ⟨X, 0 + 3, none⟩ = _ := HO2.out.cell 3
  have ly := HO2.out.lt
  simp only [List.getElem?_toArray, List.getElem?_cons_zero, List.getElem?_cons_succ] at y0 y1 y2 y3
  have HTX := Lib.hid (l23Text_any x X 0 w2 ly y0 y1 y2 y3 HBD.out)
  clear y0 y1 y2 y3
  go_wp2_with fail
  refine HTX.out.mono ?_
  rintro e w3 ⟨rfl, hb3⟩
  have HB3 := Lib.hid (HB2.out.trans (hb3.mono HB2.out.size))
  clear hb3
  go_wp2
  go_ret
  exact Ret.mk (by rw [HA.out]; rfl) HB3.out
set_option maxHeartbeats 1000000 in
theorem walk_FnExactLegText (x : Leg) (w : World) (ht : TabAt w.heap.size w) : Calls Tryd.prog 3 #[.agg #[.int .i64 x.from_, .int .i64 x.to_, .int .i64 x.minutes, .int .i64 x.exposure]] w (Ret (.bool true) w) := by
  obtain ⟨w1, hw1⟩ : ∃ w1, w.alloc (.cells #[.int .i64 x.from_, .int .i64 x.to_, .int .i64 x.minutes, .int .i64 x.exposure] 23) = w1 := ⟨_, rfl⟩
  obtain ⟨X, hX⟩ : ∃ X, w.heap.size = X := ⟨_, rfl⟩
  have hb1 : Below w.heap.size w w1 := by rw [← hw1]; exact (Below.refl _ _).alloc (Nat.le_refl _) _
  have HO1 : Hid (Own w1 X 23 #[.int .i64 x.from_, .int .i64 x.to_, .int .i64 x.minutes, .int .i64 x.exposure]) := by rw [Hid, ← hw1, ← hX]; exact Own.new _ _ _
  have HB1 := Lib.hid hb1
  have HT := Lib.hid (ht.grow hb1)
  have y0 := HO1.out.cell 0
  have y1 := HO1.out.cell 1
  have y2 := HO1.out.cell 2
  have y3 := HO1.out.cell 3
  have ly := HO1.out.lt
  simp at y0 y1 y2 y3
  clear ht hb1
  go_enter Tryd.func3, Tryd.ntmps3
  go_wp2_with fail
  refine (toLeg_any x _).mono ?_
  rintro e w2 ⟨rfl, hb2⟩
  have HB2 := Lib.hid (HB1.out.trans (hb2.mono HB1.out.size))
  have HO2 := Lib.hid (HO1.out.below' hb2)
  have HT2 := Lib.hid (HT.out.grow hb2)
  clear hb2 y0 y1 y2 y3 ly hw1
  go_wp2_with fail
  refine (specLegText_any x _).mono ?_
  rintro e w3 ⟨rfl, hb3⟩
  have HB3 := Lib.hid (HB2.out.trans (hb3.mono HB2.out.size))
  have HO3 := Lib.hid (HO2.out.below' hb3)
  have HT3 := Lib.hid (HT2.out.grow hb3)
  clear hb3
  have y0 := HO3.out.cell 0
  have y1 := HO3.out.cell 1
  have y2 := HO3.out.cell 2
  have y3 := HO3.out.cell 3
  have ly := HO3.out.lt
  simp at y0 y1 y2 y3
  go_wp2_with fail
  refine (toLeg_any x _).mono ?_
  rintro e w4 ⟨rfl, hb4⟩
  have HB4 := Lib.hid (HB3.out.trans (hb4.mono HB3.out.size))
  have HT4 := Lib.hid (HT3.out.grow hb4)
  clear hb4 y0 y1 y2 y3 ly
  go_wp2_with fail
  refine (implLegText_any x _ HT4.out).mono ?_
  rintro e w5 ⟨rfl, hb5⟩
  have HB5 := Lib.hid (HB4.out.trans (hb5.mono HB4.out.size))
  clear hb5
  go_wp2
  go_ret
  exact Ret.b rfl HB5.out

end Go.Proofs.YtgianbcplnciiaaDoor
