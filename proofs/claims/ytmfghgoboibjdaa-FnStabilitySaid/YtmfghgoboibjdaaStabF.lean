/- The program's questions about a profile's stability, at valid arguments, and the reference's two. -/
import Derived.Test.YtmfghgoboibjdaaStabX
namespace Go.Proofs.Ytmfghgoboibjdaa
open Go.RowKit

theorem inB_yes {a lo hi : Int} (h : lo ≤ a ∧ a ≤ hi) : inB a lo hi = true := inB_iff.2 h
set_option maxHeartbeats 1000000 in
theorem slabCode_ok (A : Option Addr) (n c : Nat) (r u d mo limit : Int) (xs : List Layer) (w : World) (hx : SliceOf w 7 Layer.cells A n xs) (hv : profB xs = true) (hr : 0 ≤ r ∧ r ≤ 1000) (hu : 1 ≤ u ∧ u ≤ 1000) (hd : 0 ≤ d ∧ d ≤ 1000) (hl : 0 ≤ limit ∧ limit ≤ 1000000) :
    Calls Try.prog 29 #[.agg #[.slice A n c, .int .i64 r, .int .i64 u, .int .i64 d, .int .i64 mo], .int .i64 limit] w (Ret (.int .i64 0) w) := by
  obtain ⟨w1, hw1⟩ : ∃ w1, w.alloc (.cells #[.slice A n c, .int .i64 r, .int .i64 u, .int .i64 d, .int .i64 mo] 49) = w1 := ⟨_, rfl⟩
  obtain ⟨X, hX⟩ : ∃ X, w.heap.size = X := ⟨_, rfl⟩
  have hb1 : Below w.heap.size w w1 := by rw [← hw1]; exact (Below.refl _ _).alloc (Nat.le_refl _) _
  have HO1 : Hid (Own w1 X 49 #[.slice A n c, .int .i64 r, .int .i64 u, .int .i64 d, .int .i64 mo]) := by rw [Hid, ← hw1, ← hX]; exact Own.new _ _ _
  have HX1 := Lib.hid (hx.below hb1)
  have HB1 := Lib.hid hb1
  have HV := Lib.hid hv
  have i0 := inB_yes hr
  have i1 := inB_yes hu
  have i2 := inB_yes hd
  have i3 := inB_yes hl
  have y0 := HO1.out.cell 0
  have ly := HO1.out.lt
  simp at y0
  clear hx hv hb1
  go_enter Try.func29, Try.ntmps29
  go_wp2_with fail
  refine (implProfile_ok A n c xs _ HX1.out HV.out).mono ?_
  rintro e w2 ⟨rfl, hb2⟩
  have HO2 := Lib.hid (HO1.out.below' hb2)
  have HB2 := Lib.hid (HB1.out.trans (hb2.mono HB1.out.size))
  clear hb2 y0 ly hw1
  have y1 := HO2.out.cell 1
  have y2 := HO2.out.cell 2
  have y3 := HO2.out.cell 3
  have ly := HO2.out.lt
  simp at y1 y2 y3
  go_wp2_with (first | (go_at_call 25; refine (slopeOk_ok _ _ _ i0 i1).mono ?_; rintro e w' ⟨rfl, rfl⟩) | (go_at_call 21; refine (doubtValid_any _ _).mono ?_; rintro e w' ⟨rfl, rfl⟩) | (go_at_call 47; refine (within_any _ _ _ _).mono ?_; rintro e w' ⟨rfl, rfl⟩))
  go_ret
  exact Ret.i rfl HB2.out
set_option maxHeartbeats 1000000 in
theorem strengthBounds_ok (x : Layer) (d : Int) (w : World) (h : x.oneB = true) (hd : 0 ≤ d ∧ d ≤ 1000) :
    Calls Try.prog 7 #[.agg #[.int .i64 x.form, .int .i64 x.ice, .int .i64 x.water, .int .i64 x.density, .int .i64 x.degrees, .int .i64 x.hardness, .int .i64 x.age], .int .i64 d] w (Ret (.tuple #[.int .i64 (lowN x d), .int .i64 (highN x d), .int .i64 0]) w) := by
  obtain ⟨w1, hw1⟩ : ∃ w1, w.alloc (.cells #[.int .i64 x.form, .int .i64 x.ice, .int .i64 x.water, .int .i64 x.density, .int .i64 x.degrees, .int .i64 x.hardness, .int .i64 x.age] 30) = w1 := ⟨_, rfl⟩
  obtain ⟨X, hX⟩ : ∃ X, w.heap.size = X := ⟨_, rfl⟩
  have hb1 : Below w.heap.size w w1 := by rw [← hw1]; exact (Below.refl _ _).alloc (Nat.le_refl _) _
  have HO1 : Hid (Own w1 X 30 #[.int .i64 x.form, .int .i64 x.ice, .int .i64 x.water, .int .i64 x.density, .int .i64 x.degrees, .int .i64 x.hardness, .int .i64 x.age]) := by rw [Hid, ← hw1, ← hX]; exact Own.new _ _ _
  have HB1 := Lib.hid hb1
  have HV := Lib.hid h
  have i2 := inB_yes hd
  have y0 := HO1.out.cell 0
  have y1 := HO1.out.cell 1
  have y2 := HO1.out.cell 2
  have y3 := HO1.out.cell 3
  have y4 := HO1.out.cell 4
  have y5 := HO1.out.cell 5
  have y6 := HO1.out.cell 6
  have ly := HO1.out.lt
  simp at y0 y1 y2 y3 y4 y5 y6
  clear h hb1
  go_enter Try.func7, Try.ntmps7
  go_wp2_with fail
  refine (implLayer_ok x _ HV.out).mono ?_
  rintro e w2 ⟨rfl, hb2⟩
  have HO2 := Lib.hid (HO1.out.below' hb2)
  have HB2 := Lib.hid (HB1.out.trans (hb2.mono HB1.out.size))
  clear hb2 y0 y1 y2 y3 y4 y5 y6 ly hw1
  have y0 := HO2.out.cell 0
  have y1 := HO2.out.cell 1
  have y2 := HO2.out.cell 2
  have y3 := HO2.out.cell 3
  have y4 := HO2.out.cell 4
  have y5 := HO2.out.cell 5
  have y6 := HO2.out.cell 6
  have ly := HO2.out.lt
  simp at y0 y1 y2 y3 y4 y5 y6
  go_wp2_with fail
  refine (doubtValid_any _ _).mono ?_
  rintro e w' ⟨rfl, rfl⟩
  go_wp2_with fail
  refine (strength_ok x d _ HV.out hd).mono ?_
  rintro e w3 ⟨rfl, hb3⟩
  have HB3 := Lib.hid (HB2.out.trans (hb3.mono HB2.out.size))
  clear hb3 y0 y1 y2 y3 y4 y5 y6 ly
  go_wp2
  go_ret3
  exact ⟨rfl, HB3.out⟩
set_option maxHeartbeats 1000000 in
theorem stressAt_ok (b o n c k : Nat) (r u : Int) (xs : List Layer) (w : World) (hx : SliceOf w 7 Layer.cells (some ⟨b, o, none⟩) n xs) (hv : profB xs = true) (hk : k < n) (hc : n ≤ c) (hc2 : c ≤ 9223372036854775807) (hr : 0 ≤ r ∧ r ≤ 1000) (hu : 1 ≤ u ∧ u ≤ 1000) :
    Calls Try.prog 9 #[.slice (some ⟨b, o, none⟩) n c, .int .i64 k, .int .i64 r, .int .i64 u] w (Ret (.tuple #[.int .i64 (stressN (loadN xs k) r u), .int .i64 0]) w) := by
  have h16 : n ≤ 16 := by rw [← hx.len]; exact (profB_iff.1 hv).1
  have HX := Lib.hid hx
  have HV := Lib.hid hv
  have hld := load_bd hv k
  have i0 := inB_yes hr
  have i1 := inB_yes hu
  clear hx hv
  go_enter Try.func9, Try.ntmps9
  go_wp2_with fail
  refine (implProfile_ok _ n c xs _ HX.out HV.out).mono ?_
  rintro e w2 ⟨rfl, hb2⟩
  have HB2 := Lib.hid hb2
  have HX2 := Lib.hid (HX.out.below hb2)
  clear hb2
  go_wp2_with fail
  refine (indexValid_ok _ n c k _ hk (by omega)).mono ?_
  rintro e w' ⟨rfl, rfl⟩
  go_wp2_with fail
  refine (slopeOk_ok _ _ _ i0 i1).mono ?_
  rintro e w' ⟨rfl, rfl⟩
  go_wp2_with fail
  refine (loadAbove_ok _ _ _ _ _ xs _ HX2.out HV.out hk hc hc2).mono ?_
  rintro e w3 ⟨rfl, hb3⟩
  have HB3 := Lib.hid (HB2.out.trans (hb3.mono HB2.out.size))
  clear hb3
  go_wp2_with fail
  refine (stressOf_ok _ _ _ _ (by omega) hr hu).mono ?_
  rintro e w4 ⟨rfl, hb4⟩
  have HB4 := Lib.hid (HB3.out.trans (hb4.mono HB3.out.size))
  clear hb4
  go_wp2
  go_ret2
  exact Ret.ii rfl rfl HB4.out
set_option maxHeartbeats 1000000 in
theorem indexBounds_ok (b o n c k : Nat) (r u d : Int) (xs : List Layer) (w : World) (hx : SliceOf w 7 Layer.cells (some ⟨b, o, none⟩) n xs) (hv : profB xs = true) (hk : k < n) (hc : n ≤ c) (hc2 : c ≤ 9223372036854775807) (hr : 0 ≤ r ∧ r ≤ 1000) (hu : 1 ≤ u ∧ u ≤ 1000) (hd : 0 ≤ d ∧ d ≤ 1000) :
    Calls Try.prog 8 #[.slice (some ⟨b, o, none⟩) n c, .int .i64 k, .int .i64 r, .int .i64 u, .int .i64 d] w (Ret (.tuple #[.int .i64 (lowAt xs 0 r u d k), .int .i64 (highAt xs 0 r u d k), .int .i64 0]) w) := by
  have h16 : n ≤ 16 := by rw [← hx.len]; exact (profB_iff.1 hv).1
  have HX := Lib.hid hx
  have HV := Lib.hid hv
  have i0 := inB_yes hr
  have i1 := inB_yes hu
  have i2 := inB_yes hd
  clear hx hv
  go_enter Try.func8, Try.ntmps8
  go_wp2_with fail
  refine (implProfile_ok _ n c xs _ HX.out HV.out).mono ?_
  rintro e w2 ⟨rfl, hb2⟩
  have HB2 := Lib.hid hb2
  have HX2 := Lib.hid (HX.out.below hb2)
  clear hb2
  go_wp2_with fail
  refine (indexValid_ok _ n c k _ hk (by omega)).mono ?_
  rintro e w' ⟨rfl, rfl⟩
  go_wp2_with fail
  refine (slopeOk_ok _ _ _ i0 i1).mono ?_
  rintro e w' ⟨rfl, rfl⟩
  go_wp2_with fail
  refine (doubtValid_any _ _).mono ?_
  rintro e w' ⟨rfl, rfl⟩
  go_wp2_with fail
  refine (index_ok _ _ _ _ k r u d 0 xs _ HX2.out HV.out hk hc hc2 hr hu hd (by omega)).mono ?_
  rintro e w3 ⟨rfl, hb3⟩
  have HB3 := Lib.hid (HB2.out.trans (hb3.mono HB2.out.size))
  clear hb3
  go_wp2
  go_ret3
  exact ⟨rfl, HB3.out⟩
set_option maxHeartbeats 1000000 in
theorem specIndexBounds_ok (b o n c k : Nat) (r u d : Int) (xs : List Layer) (w : World) (hx : SliceOf w 7 Layer.cells (some ⟨b, o, none⟩) n xs) (hv : profB xs = true) (hk : k < n) (hc : n ≤ c) (hc2 : c ≤ 9223372036854775807) (hr : 0 ≤ r ∧ r ≤ 1000) (hu : 1 ≤ u ∧ u ≤ 1000) (hd : 0 ≤ d ∧ d ≤ 1000) :
    Calls Try.prog 13 #[.slice (some ⟨b, o, none⟩) n c, .int .i64 k, .int .i64 r, .int .i64 u, .int .i64 d] w (Ret (.tuple #[.int .i64 (lowAt xs 0 r u d k), .int .i64 (highAt xs 0 r u d k), .int .i64 0]) w) := by
  have HX := Lib.hid hx
  have HV := Lib.hid hv
  have i0 := inB_yes hr
  have i1 := inB_yes hu
  have i2 := inB_yes hd
  clear hx hv
  go_enter Try.func13, Try.ntmps13
  go_wp2_with (first | (go_at_call 33; refine (l03Ask_ok _ n c k xs _ HX.out HV.out hk).mono ?_; rintro e w' ⟨rfl, rfl⟩) | (go_at_call 34; refine (l07Slope_ok _ _ _ i0 i1).mono ?_; rintro e w' ⟨rfl, rfl⟩) | (go_at_call 35; refine (l07Doubt_any _ _).mono ?_; rintro e w' ⟨rfl, rfl⟩))
  go_wp2_with fail
  refine (l07Index_ok _ _ _ _ k r u d 0 xs _ HX.out HV.out hk hc hc2 hr hu hd (by omega)).mono ?_
  rintro e w3 ⟨rfl, hb3⟩
  have HB3 := Lib.hid hb3
  clear hb3
  go_wp2
  go_ret3
  exact ⟨rfl, HB3.out⟩
set_option maxHeartbeats 1000000 in
theorem specIsStable_ok (A : Option Addr) (n c : Nat) (r u d limit : Int) (xs : List Layer) (w : World) (hx : SliceOf w 7 Layer.cells A n xs) (hv : profB xs = true) (hc : n ≤ c) (hc2 : c ≤ 9223372036854775807) (hr : 0 ≤ r ∧ r ≤ 1000) (hu : 1 ≤ u ∧ u ≤ 1000) (hd : 0 ≤ d ∧ d ≤ 1000) (hl : 0 ≤ limit ∧ limit ≤ 1000000) :
    Calls Try.prog 16 #[.slice A n c, .int .i64 r, .int .i64 u, .int .i64 d, .int .i64 limit] w (Ret (.bool (stabB xs 0 r u d limit)) w) := by
  have HX := Lib.hid hx
  have HV := Lib.hid hv
  have i0 := inB_yes hr
  have i1 := inB_yes hu
  have i2 := inB_yes hd
  have i3 := inB_yes hl
  clear hx hv
  go_enter Try.func16, Try.ntmps16
  go_wp2_with fail
  refine (l07Ask_ok _ n c _ _ _ xs _ HX.out HV.out i0 i1 i2).mono ?_
  rintro e w' ⟨rfl, rfl⟩
  go_wp2_with fail
  refine (l07Limit_any _ _).mono ?_
  rintro e w' ⟨rfl, rfl⟩
  go_wp2_with fail
  refine (l07Stable_ok _ n c r u d 0 limit xs _ HX.out HV.out hc hc2 hr hu hd (by omega) hl.2).mono ?_
  rintro e w3 ⟨rfl, hb3⟩
  have HB3 := Lib.hid hb3
  clear hb3
  go_wp2
  go_ret
  exact Ret.b rfl HB3.out

end Go.Proofs.Ytmfghgoboibjdaa
