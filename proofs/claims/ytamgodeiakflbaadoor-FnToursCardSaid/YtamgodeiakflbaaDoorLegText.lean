/- The text of a leg: the program's and the reference's functions return one string. -/
import Derived.Test.YtamgodeiakflbaaDoorDec
import Derived.Test.YtamgodeiakflbaaDoorLegs
namespace Go.Proofs.YtamgodeiakflbaaDoor
open Go.RowKit

def legText (x : Leg) : ByteArray := (((((dec x.from_ ++ ⟨#[45]⟩) ++ dec x.to_) ++ ⟨#[32]⟩) ++ dec x.minutes) ++ ⟨#[33]⟩) ++ dec x.exposure
def legTextA (x : Leg) : ByteArray := if x.oneB 12 = true then legText x else ⟨#[]⟩
theorem Leg.one_bd {x : Leg} (h : x.oneB 12 = true) : I64 x.from_ ∧ I64 x.to_ ∧ I64 x.minutes ∧ I64 x.exposure := by
  unfold Leg.oneB at h
  simp only [Bool.and_eq_true, inB_iff] at h
  unfold I64
  omega
theorem dec_sizes {a b : Int} (ha : I64 a) (hb : I64 b) : (dec a).size ≤ 21 ∧ (dec b).size ≤ 21 := ⟨dec_size ha, dec_size hb⟩
set_option maxHeartbeats 1000000 in
theorem implLegText_any (x : Leg) (w : World) (ht : TabAt w.heap.size w) : Calls Tryd.prog 9 #[.agg #[.int .i64 x.from_, .int .i64 x.to_, .int .i64 x.minutes, .int .i64 x.exposure]] w (Ret (.string (legTextA x)) w) := by
  obtain ⟨w1, hw1⟩ : ∃ w1, w.alloc (.cells #[.int .i64 x.from_, .int .i64 x.to_, .int .i64 x.minutes, .int .i64 x.exposure] 32) = w1 := ⟨_, rfl⟩
  obtain ⟨X, hX⟩ : ∃ X, w.heap.size = X := ⟨_, rfl⟩
  have hb1 : Below w.heap.size w w1 := by rw [← hw1]; exact (Below.refl _ _).alloc (Nat.le_refl _) _
  have HO1 : Hid (Own w1 X 32 #[.int .i64 x.from_, .int .i64 x.to_, .int .i64 x.minutes, .int .i64 x.exposure]) := by rw [Hid, ← hw1, ← hX]; exact Own.new _ _ _
  have HB1 := Lib.hid hb1
  have HT := Lib.hid (ht.grow hb1)
  have y0 := HO1.out.cell 0
  have y1 := HO1.out.cell 1
  have y2 := HO1.out.cell 2
  have y3 := HO1.out.cell 3
  have ly := HO1.out.lt
  simp at y0 y1 y2 y3
  clear ht hb1
  cases ho : x.oneB 12
  · have HA : Hid (legTextA x = ⟨#[]⟩) := by rw [Hid]; unfold legTextA; simp [ho]
    go_enter Tryd.func9, Tryd.ntmps9
    go_wp2_with fail
    refine (fits_any x 12 _ (by decide) (by decide)).mono ?_
    rintro e w2 ⟨rfl, hb2⟩
    rw [ho]
    have HB2 := Lib.hid (HB1.out.trans (hb2.mono HB1.out.size))
    clear hb2 y0 y1 y2 y3 ly hw1 ho
    go_wp2
    go_ret
    exact Ret.mk (by rw [HA.out]; rfl) HB2.out
  have HA : Hid (legTextA x = legText x) := by rw [Hid]; unfold legTextA; simp [ho]
  have hbd := Leg.one_bd ho
  have HBD := Lib.hid hbd
  have z0 := dec_size hbd.1
  have z1 := dec_size hbd.2.1
  have z2 := dec_size hbd.2.2.1
  have z3 := dec_size hbd.2.2.2
  clear hbd
  go_enter Tryd.func9, Tryd.ntmps9
  go_wp2_with fail
  refine (fits_any x 12 _ (by decide) (by decide)).mono ?_
  rintro e w2 ⟨rfl, hb2⟩
  rw [ho]
  have HB2 := Lib.hid (HB1.out.trans (hb2.mono HB1.out.size))
  have HO2 := Lib.hid (HO1.out.below' hb2)
  have HT2 := Lib.hid (HT.out.grow hb2)
  clear hb2 y0 y1 y2 y3 ly hw1 ho
  have y0 := HO2.out.cell 0
  have y1 := HO2.out.cell 1
  have y2 := HO2.out.cell 2
  have y3 := HO2.out.cell 3
  have ly := HO2.out.lt
  simp at y0 y1 y2 y3
  have hsub := fun (g : Sub w2) b o (h : b < w2.heap.size) => g.cell b o h
  go_wp2_with fail
  refine wp_region_sub (by kernel_rfl) (by kernel_rfl) ?_
  repeat (go_big_quiet_step (first | exact Calls.sub_of (implDecimal_any _ _ HBD.out.1 (HT2.out.grow (Sub.below _))) | exact Calls.sub_of (implDecimal_any _ _ HBD.out.2.1 (HT2.out.grow (Sub.below _))) | exact Calls.sub_of (implDecimal_any _ _ HBD.out.2.2.1 (HT2.out.grow (Sub.below _))) | exact Calls.sub_of (implDecimal_any _ _ HBD.out.2.2.2 (HT2.out.grow (Sub.below _)))))
  refine wpQuiet_nil ?_
  intro wg hg
  have HB3 := Lib.hid (HB2.out.trans (hg.mono HB2.out.size))
  clear hg hsub y0 y1 y2 y3 ly
  go_wp2
  go_ret
  exact Ret.mk (by rw [HA.out]; rfl) HB3.out

end Go.Proofs.YtamgodeiakflbaaDoor
