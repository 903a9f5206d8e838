/- The text of an asset: both sides, and the law FnExactAssetText. -/
import Derived.Test.YtgianbcplnciiaaDoorAssetOne
import Derived.Test.YtgianbcplnciiaaDoorListT
import Derived.Deep.RegionHeld3
namespace Go.Proofs.YtgianbcplnciiaaDoor
open Go.RowKit

def assetText (x : Asset) : ByteArray := (((x.id ++ ⟨#[32]⟩) ++ dec x.worth) ++ ⟨#[32]⟩) ++ textList x.spots
def assetTextA (x : Asset) : ByteArray := if x.fitsB 64 = true then assetText x else ⟨#[]⟩
theorem name_size {s : ByteArray} (h : isNameB s = true) : s.size ≤ 10 := by
  obtain ⟨_, h1, _⟩ := (nameL_iff _).1 (show nameL s.data.toList = true from h)
  rw [Array.length_toList] at h1
  exact h1
theorem rises_some {c : Int} : ∀ (xs : List Int) (q : Int), goodFrom (fun _ => true) risesRel (some q) xs = true → (∀ y ∈ xs, y ≤ c - 1) → q ≤ c - 1 → (xs.length : Int) ≤ c - 1 - q
  | [], q, _, _, hq => by simp; omega
  | y :: ys, q, h, hb, hq => by
    rw [goodFrom, Bool.and_eq_true, Bool.and_eq_true] at h
    have h1 : q < y := of_decide_eq_true h.1.2
    have h2 := hb y (by simp)
    have h3 := rises_some ys y h.2 (fun z hz => hb z (by simp [hz])) h2
    rw [List.length_cons]
    omega
theorem rises_len {c : Int} {xs : List Int} (h : risesB xs = true) (hb : ∀ y ∈ xs, 0 ≤ y ∧ y ≤ c - 1) (hc : 0 ≤ c) : (xs.length : Int) ≤ c := by
  cases xs with
  | nil => simpa using hc
  | cons y ys =>
    unfold risesB at h
    rw [goodFrom, Bool.and_eq_true] at h
    have h2 := hb y (by simp)
    have h3 := rises_some ys y h.2 (fun z hz => (hb z (by simp [hz])).2) h2.2
    rw [List.length_cons]
    omega
theorem textList_size {xs : List Int} (h : ∀ y, y ∈ xs → I64 y) : (textList xs).size ≤ 22 * xs.length + 1 := by
  unfold textList
  by_cases e : xs = []
  · rw [if_pos e]
    have : (⟨#[45]⟩ : ByteArray).size = 1 := rfl
    omega
  · rw [if_neg e]
    have := accText_size xs h
    omega
/-- What a valid asset's text wants to know. -/
structure AssetOk (x : Asset) : Prop where
  id : x.id.size ≤ 10
  len : x.spots.length ≤ 64
  in_ : ∀ y, y ∈ x.spots → -1000000000000 ≤ y ∧ y ≤ 1000000000000
  i64 : ∀ y, y ∈ x.spots → I64 y
  worth : I64 x.worth
theorem assetOk {x : Asset} (h : x.fitsB 64 = true) : AssetOk x := by
  have hn : isNameB x.id = true := by unfold Asset.fitsB at h; simp only [Bool.and_eq_true] at h; exact h.1.1.1
  obtain ⟨h0, hr, hb, hw⟩ := fitsB_parts h
  have hl := rises_len hr hb (by decide)
  exact ⟨name_size hn, by omega, fun y hy => by have := hb y hy; omega, fun y hy => by have := hb y hy; unfold I64; omega, by unfold I64; omega⟩
set_option maxRecDepth 100000 in
set_option maxHeartbeats 2000000 in
theorem implAssetText_any (x : AssetR) (w : World) (hin : x.In w) (hs : x.id.size ≤ 9223372036854775807) (ht : TabAt w.heap.size w) : Calls Tryd.prog 13 #[.agg #[.string x.id, .slice x.spotsA x.spotsN x.spotsC, .int .i64 x.worth]] w (Ret (.string (assetTextA x.val)) w) := by
  obtain ⟨w1, hw1⟩ : ∃ w1, w.alloc (.cells #[.string x.id, .slice x.spotsA x.spotsN x.spotsC, .int .i64 x.worth] 33) = w1 := ⟨_, rfl⟩
  obtain ⟨X, hX⟩ : ∃ X, w.heap.size = X := ⟨_, rfl⟩
  have hb1 : Below w.heap.size w w1 := by rw [← hw1]; exact (Below.refl _ _).alloc (Nat.le_refl _) _
  have HO1 : Hid (Own w1 X 33 #[.string x.id, .slice x.spotsA x.spotsN x.spotsC, .int .i64 x.worth]) := by rw [Hid, ← hw1, ← hX]; exact Own.new _ _ _
  have HB1 := Lib.hid hb1
  have HT := Lib.hid (ht.grow hb1)
  have HI1 := Lib.hid (hin.below hb1)
  have y0 := HO1.out.cell 0
  have y1 := HO1.out.cell 1
  have y2 := HO1.out.cell 2
  have ly := HO1.out.lt
  simp at y0 y1 y2
  clear ht hb1 hin
  cases ho : x.val.fitsB 64
  · have HA : Hid (assetTextA x.val = ⟨#[]⟩) := by rw [Hid]; unfold assetTextA; simp [ho]
    go_enter Tryd.func13, Tryd.ntmps13
    go_wp2_with fail
    refine (assetFits_any x 64 _ HI1.out hs (by decide) (by decide)).mono ?_
    rintro e w2 ⟨rfl, hb2⟩
    rw [ho]
    have HB2 := Lib.hid (HB1.out.trans (hb2.mono HB1.out.size))
    clear hb2 y0 y1 y2 ly hw1 ho
    go_wp2
    go_ret
    exact Ret.mk (by rw [HA.out]; rfl) HB2.out
  have HA : Hid (assetTextA x.val = assetText x.val) := by rw [Hid]; unfold assetTextA; simp [ho]
  have HOK := Lib.hid (assetOk ho)
  have hz0 : x.id.size ≤ 10 := HOK.out.id
  have hz1 := dec_size HOK.out.worth
  have hz2 := textList_size HOK.out.i64
  have hz3 := HOK.out.len
  have HLN := Lib.hid HI1.out.1.len
  have hz4 : x.spotsN ≤ 64 := by rw [← HLN.out]; exact hz3
  have hz5 : (textList x.spots).size ≤ 2000 := by
    have e : x.val.spots = x.spots := rfl
    rw [e] at hz2 hz3
    omega
  have hz6 : (dec x.worth).size ≤ 21 := hz1
  clear hz1 hz2 hz3
  go_enter Tryd.func13, Tryd.ntmps13
  go_wp2_with fail
  refine (assetFits_any x 64 _ HI1.out hs (by decide) (by decide)).mono ?_
  rintro e w2 ⟨rfl, hb2⟩
  rw [ho]
  have HB2 := Lib.hid (HB1.out.trans (hb2.mono HB1.out.size))
  have HO2 := Lib.hid (HO1.out.below' hb2)
  have HT2 := Lib.hid (HT.out.grow hb2)
  have HI2 := Lib.hid (HI1.out.below hb2)
  clear hb2 y0 y1 y2 ly hw1 ho
  have y0 := HO2.out.cell 0
  have y1 := HO2.out.cell 1
  have y2 := HO2.out.cell 2
  have ly := HO2.out.lt
  simp at y0 y1 y2
  have hsub := fun (g : Sub w2) b o (h : b < w2.heap.size) => g.cell b o h
  go_wp2_with fail
  refine wp_region_sub (by kernel_rfl) (by kernel_rfl) ?_
  repeat (go_big_quiet_step (first | exact Calls.sub_of (implDecimal_any _ _ HOK.out.worth (HT2.out.grow (Sub.below _))) | exact Calls.sub_of (implListText_any _ _ _ _ _ (HI2.out.1.below (Sub.below _)) hz4 HOK.out.in_ (HT2.out.grow (Sub.below _)))))
  refine wpQuiet_nil ?_
  intro wg hg
  have HB3 := Lib.hid (HB2.out.trans (hg.mono HB2.out.size))
  clear hg hsub y0 y1 y2 ly
  go_wp2
  go_ret
  exact Ret.mk (by rw [HA.out]; rfl) HB3.out
set_option maxRecDepth 100000 in
set_option maxHeartbeats 2000000 in
theorem l15Text_any (x : AssetR) (b : Nat) (w : World) (hin : x.In w) (hok : AssetOk x.val) (hO : Own w b 33 #[.string x.id, .slice x.spotsA x.spotsN x.spotsC, .int .i64 x.worth]) : Calls Tryd.prog 28 #[.pointer (some ⟨b, 0, none⟩)] w (Ret (.string (assetText x.val)) w) := by
  have HOK := Lib.hid hok
  have HI2 := Lib.hid hin
  have hz0 : x.id.size ≤ 10 := HOK.out.id
  have hz1 := dec_size HOK.out.worth
  have hz2 := textList_size HOK.out.i64
  have hz3 := HOK.out.len
  have HLN := Lib.hid HI2.out.1.len
  have hz4 : x.spotsN ≤ 64 := by rw [← HLN.out]; exact hz3
  have hz5 : (textList x.spots).size ≤ 2000 := by
    have e : x.val.spots = x.spots := rfl
    rw [e] at hz2 hz3
    omega
  have hz6 : (dec x.worth).size ≤ 21 := hz1
  have hz7 : x.spotsN ≤ 1048576 := by omega
  clear hz1 hz2 hz3 hok hin
  have y0 := hO.cell 0
  have y1 := hO.cell 1
  have y2 := hO.cell 2
  have ly := hO.lt
  simp at y0 y1 y2
  have hsub := fun (g : Sub w) b o (h : b < w.heap.size) => g.cell b o h
  clear hO
  go_enter Tryd.func28, Tryd.ntmps28
  go_wp2_with fail
  refine wp_region_sub (by kernel_rfl) (by kernel_rfl) ?_
  repeat (go_big_quiet_step (first | exact Calls.sub_of (l01Dec_any _ _ HOK.out.worth) | exact Calls.sub_of (l01List_any _ _ _ _ _ (HI2.out.1.below (Sub.below _)) hz7 HOK.out.i64)))
  refine wpQuiet_nil ?_
  intro wg hg
  have HB := Lib.hid hg
  clear hg hsub y0 y1 y2
  go_wp2
  go_ret
  exact Ret.mk rfl HB.out
set_option maxRecDepth 100000 in
set_option maxHeartbeats 2000000 in
theorem specAssetText_any (x : AssetR) (w : World) (hin : x.In w) (hs : x.id.size ≤ 9223372036854775807) : Calls Tryd.prog 11 #[.agg #[.string x.id, .slice x.spotsA x.spotsN x.spotsC, .int .i64 x.worth]] w (Ret (.string (assetTextA x.val)) w) := by
  obtain ⟨w1, hw1⟩ : ∃ w1, w.alloc (.cells #[.string x.id, .slice x.spotsA x.spotsN x.spotsC, .int .i64 x.worth] 33) = w1 := ⟨_, rfl⟩
  obtain ⟨X, hX⟩ : ∃ X, w.heap.size = X := ⟨_, rfl⟩
  have hb1 : Below w.heap.size w w1 := by rw [← hw1]; exact (Below.refl _ _).alloc (Nat.le_refl _) _
  have HO1 : Hid (Own w1 X 33 #[.string x.id, .slice x.spotsA x.spotsN x.spotsC, .int .i64 x.worth]) := by rw [Hid, ← hw1, ← hX]; exact Own.new _ _ _
  have HB1 := Lib.hid hb1
  have HI1 := Lib.hid (hin.below hb1)
  have HW1 := Lib.hid hw1
  have HX := Lib.hid hX
  have y0 := HO1.out.cell 0
  have y1 := HO1.out.cell 1
  have y2 := HO1.out.cell 2
  have ly := HO1.out.lt
  simp at y0 y1 y2
  have HC := Lib.hid (l15One_any x 64 X 0 w1 HI1.out hs (by decide) (by decide) y0 y1 y2 ly)
  clear hb1 hin hw1 hX y0 y1 y2 ly
  cases ho : x.val.fitsB 64
  · have HA : Hid (assetTextA x.val = ⟨#[]⟩) := by rw [Hid]; unfold assetTextA; simp [ho]
    go_enter Tryd.func11, Tryd.ntmps11
    go_wp2_with fail
    rw [HW1.out, HX.out]
    refine HC.out.mono ?_
    rintro e w2 ⟨rfl, hb2⟩
    rw [ho]
    have HB2 := Lib.hid (HB1.out.trans (hb2.mono HB1.out.size))
    clear hb2 ho
    go_wp2
    go_ret
    exact Ret.mk (by rw [HA.out]; rfl) HB2.out
  have HA : Hid (assetTextA x.val = assetText x.val) := by rw [Hid]; unfold assetTextA; simp [ho]
  have HOK := Lib.hid (assetOk ho)
  go_enter Tryd.func11, Tryd.ntmps11
  go_wp2_with fail
  rw [HW1.out, HX.out]
  refine HC.out.mono ?_
  rintro e w2 ⟨rfl, hb2⟩
  rw [ho]
  have HB2 := Lib.hid (HB1.out.trans (hb2.mono HB1.out.size))
  have HC2 := Lib.hid (l15Text_any x X w2 (HI1.out.below hb2) HOK.out (HO1.out.below' hb2))
  clear hb2 ho
  go_wp2_with fail
  refine HC2.out.mono ?_
  rintro e w3 ⟨rfl, hb3⟩
  have HB3 := Lib.hid (HB2.out.trans (hb3.mono HB2.out.size))
  clear hb3
  go_wp2
  go_ret
  exact Ret.mk (by rw [HA.out]; rfl) HB3.out
theorem heldX {wr w' : World} {b1 b2 : Nat} {u0 u1 u2 v0 v1 v2 : Value} (h1 : b1 < wr.heap.size) (h2 : b2 < wr.heap.size) (x0 : wr.cell? ⟨b1, 0, none⟩ = some u0) (x1 : wr.cell? ⟨b1, 1, none⟩ = some u1) (x2 : wr.cell? ⟨b1, 2, none⟩ = some u2) (y0 : wr.cell? ⟨b2, 0, none⟩ = some v0) (y1 : wr.cell? ⟨b2, 1, none⟩ = some v1) (y2 : wr.cell? ⟨b2, 2, none⟩ = some v2) (hb : Below wr.heap.size wr w') : w'.cell? ⟨b1, 0, none⟩ = some u0 ∧ w'.cell? ⟨b1, 1, none⟩ = some u1 ∧ w'.cell? ⟨b1, 2, none⟩ = some u2 ∧ w'.cell? ⟨b2, 0, none⟩ = some v0 ∧ w'.cell? ⟨b2, 1, none⟩ = some v1 ∧ w'.cell? ⟨b2, 2, none⟩ = some v2 ∧ Below wr.heap.size wr w' :=
  ⟨(hb.cell (p := ⟨b1, 0, none⟩) h1).trans x0, (hb.cell (p := ⟨b1, 1, none⟩) h1).trans x1, (hb.cell (p := ⟨b1, 2, none⟩) h1).trans x2, (hb.cell (p := ⟨b2, 0, none⟩) h2).trans y0, (hb.cell (p := ⟨b2, 1, none⟩) h2).trans y1, (hb.cell (p := ⟨b2, 2, none⟩) h2).trans y2, hb⟩
set_option maxRecDepth 100000 in
set_option maxHeartbeats 2000000 in
theorem walk_FnExactAssetText (x : AssetR) (w : World) (hin : x.In w) (hg : x.val.Good) (ht : TabAt w.heap.size w) : Calls Tryd.prog 4 #[.agg #[.string x.id, .slice x.spotsA x.spotsN x.spotsC, .int .i64 x.worth]] w (Ret (.bool true) w) := by
  obtain ⟨w1, hw1⟩ : ∃ w1, w.alloc (.cells #[.string x.id, .slice x.spotsA x.spotsN x.spotsC, .int .i64 x.worth] 30) = w1 := ⟨_, rfl⟩
  obtain ⟨X, hX⟩ : ∃ X, w.heap.size = X := ⟨_, rfl⟩
  have hb1 : Below w.heap.size w w1 := by rw [← hw1]; exact (Below.refl _ _).alloc (Nat.le_refl _) _
  have HO1 : Hid (Own w1 X 30 #[.string x.id, .slice x.spotsA x.spotsN x.spotsC, .int .i64 x.worth]) := by rw [Hid, ← hw1, ← hX]; exact Own.new _ _ _
  have HB1 := Lib.hid hb1
  have HT1 := Lib.hid (ht.grow hb1)
  have HI1 := Lib.hid (hin.below hb1)
  have HW1 := Lib.hid hw1
  have HX := Lib.hid hX
  have HG := Lib.hid hg
  have hs : x.id.size ≤ 9223372036854775807 := hg.2.1
  have y0 := HO1.out.cell 0
  have y1 := HO1.out.cell 1
  have y2 := HO1.out.cell 2
  have ly := HO1.out.lt
  simp at y0 y1 y2
  clear hb1 hin ht hw1 hX hg
  go_enter Tryd.func4, Tryd.ntmps4
  go_upto_region 2 with fail
  rw [HW1.out, HX.out]
  go_wp2_with fail
  refine (szAsset_any x _ _ HI1.out HG.out (by omega) (by omega)).mono ?_
  rintro e w2 ⟨v, rfl, ⟨r1, rfl, q1⟩, b2⟩
  have HB2 := Lib.hid (HB1.out.trans (b2.mono HB1.out.size))
  have HI2 := Lib.hid (HI1.out.below b2)
  have HO2 := Lib.hid (HO1.out.below' b2)
  have HT2 := Lib.hid (HT1.out.grow b2)
  clear b2 y0 y1 y2 ly
  by_cases hr : r1 < 0
  · go_wp2
    go_ret
    exact Ret.b rfl HB2.out
  have l1 : x.spotsN ≤ 1048576 := by omega
  clear q1
  have y0 := HO2.out.cell 0
  have y1 := HO2.out.cell 1
  have y2 := HO2.out.cell 2
  have ly := HO2.out.lt
  simp at y0 y1 y2
  go_wp2_with fail
  refine (toAsset_any x _ HI2.out l1).mono ?_
  rintro e w3 ⟨p, rfl, hv, o3, b3⟩
  have HB3 := Lib.hid (HB2.out.trans (b3.mono HB2.out.size))
  have HI3 := Lib.hid (HI2.out.below b3)
  have HO3 := Lib.hid (HO2.out.below' b3)
  have HT3 := Lib.hid (HT2.out.grow b3)
  have hps : p.id.size ≤ 9223372036854775807 := by
    have e : p.id = x.id := congrArg Asset.id hv
    rw [e]; exact hs
  have HV := Lib.hid hv
  have HPI := Lib.hid (AssetR.in_of o3)
  clear b3 y0 y1 y2 ly o3 hv
  go_wp2_with fail
  refine (specAssetText_any p w3 HPI.out hps).mono ?_
  rintro e w4 ⟨rfl, b4⟩
  rw [HV.out]
  have HB4 := Lib.hid (HB3.out.trans (b4.mono HB3.out.size))
  have HI4 := Lib.hid (HI3.out.below b4)
  have HO4 := Lib.hid (HO3.out.below' b4)
  have HT4 := Lib.hid (HT3.out.grow b4)
  clear b4 hps HV HPI
  have y0 := HO4.out.cell 0
  have y1 := HO4.out.cell 1
  have y2 := HO4.out.cell 2
  have ly := HO4.out.lt
  simp at y0 y1 y2
  go_wp2_with fail
  refine (toAsset_any x _ HI4.out l1).mono ?_
  rintro e w5 ⟨p, rfl, hv, o5, b5⟩
  have HB5 := Lib.hid (HB4.out.trans (b5.mono HB4.out.size))
  have hps : p.id.size ≤ 9223372036854775807 := by
    have e : p.id = x.id := congrArg Asset.id hv
    rw [e]; exact hs
  obtain ⟨w6, hw6⟩ : ∃ w6, w5.alloc (.cells #[.string p.id, .slice p.spotsA p.spotsN p.spotsC, .int .i64 p.worth] 33) = w6 := ⟨_, rfl⟩
  obtain ⟨Y, hY⟩ : ∃ Y, w5.heap.size = Y := ⟨_, rfl⟩
  have b6 : Below w5.heap.size w5 w6 := by rw [← hw6]; exact (Below.refl _ _).alloc (Nat.le_refl _) _
  have HP6 : Hid (Own w6 Y 33 #[.string p.id, .slice p.spotsA p.spotsN p.spotsC, .int .i64 p.worth]) := by rw [Hid, ← hw6, ← hY]; exact Own.new _ _ _
  have HB6 := Lib.hid (HB5.out.trans (b6.mono HB5.out.size))
  have HI6 := Lib.hid ((HI4.out.below b5).below b6)
  have HO6 := Lib.hid ((HO4.out.below' b5).below' b6)
  have HT6 := Lib.hid ((HT4.out.grow b5).grow b6)
  have HPI6 := Lib.hid ((AssetR.in_of o5).below b6)
  have HV := Lib.hid hv
  have HW6 := Lib.hid hw6
  have HY := Lib.hid hY
  clear b5 b6 y0 y1 y2 ly o5 hv hw6 hY
  have y0 := HP6.out.cell 0
  have y1 := HP6.out.cell 1
  have y2 := HP6.out.cell 2
  have ly := HP6.out.lt
  simp at y0 y1 y2
  go_upto_region 7 with fail
  rw [HW6.out, HY.out]
  go_wp2_with fail
  refine (implAssetText_any p w6 HPI6.out hps HT6.out).mono ?_
  rintro e w7 ⟨rfl, b7⟩
  rw [HV.out]
  have HB7 := Lib.hid (HB6.out.trans (b7.mono HB6.out.size))
  have HI7 := Lib.hid (HI6.out.below b7)
  have HO7 := Lib.hid (HO6.out.below' b7)
  have HP7 := Lib.hid (HP6.out.below' b7)
  have HPI7 := Lib.hid (HPI6.out.below b7)
  clear b7 y0 y1 y2 ly
  have x0 := HO7.out.cell 0
  have x1 := HO7.out.cell 1
  have x2 := HO7.out.cell 2
  have lx := HO7.out.lt
  have y0 := HP7.out.cell 0
  have y1 := HP7.out.cell 1
  have y2 := HP7.out.cell 2
  have ly := HP7.out.lt
  simp at x0 x1 x2 y0 y1 y2
  go_upto_region 10 with fail
  go_region_held3 (fun w' => w'.cell? ⟨X, 0, none⟩ = some (.string x.id) ∧ w'.cell? ⟨X, 1, none⟩ = some (.slice x.spotsA x.spotsN x.spotsC) ∧ w'.cell? ⟨X, 2, none⟩ = some (.int .i64 x.worth) ∧ w'.cell? ⟨Y, 0, none⟩ = some (.string p.id) ∧ w'.cell? ⟨Y, 1, none⟩ = some (.slice p.spotsA p.spotsN p.spotsC) ∧ w'.cell? ⟨Y, 2, none⟩ = some (.int .i64 p.worth) ∧ Below w7.heap.size w7 w')
    (first | exact heldX lx ly x0 x1 x2 y0 y1 y2 (Below.refl _ _) | exact heldX lx ly x0 x1 x2 y0 y1 y2 (Below.drew (Below.refl _ _)) | exact heldX lx ly x0 x1 x2 y0 y1 y2 hBv | exact heldX lx ly x0 x1 x2 y0 y1 y2 (Below.drew hBv) | exact heldX lx ly x0 x1 x2 y0 y1 y2 hBw | exact heldX lx ly x0 x1 x2 y0 y1 y2 (Below.drew hBw))
    (first | (go_at_call 12; refine (toAsset_any x _ (HI7.out.below (‹_ ∧ _ ∧ _ ∧ _ ∧ _ ∧ _ ∧ Below w7.heap.size w7 _›).2.2.2.2.2.2) l1).mono ?_; rintro e wq ⟨q, rfl, hq, oq, hbq⟩; have hBw := (‹_ ∧ _ ∧ _ ∧ _ ∧ _ ∧ _ ∧ Below w7.heap.size w7 _›).2.2.2.2.2.2.trans (hbq.mono (‹_ ∧ _ ∧ _ ∧ _ ∧ _ ∧ _ ∧ Below w7.heap.size w7 _›).2.2.2.2.2.2.size); have hqi := AssetR.in_of oq) | (go_at_call 14; refine (eqAsset_any p q _ (HPI7.out.below (‹_ ∧ _ ∧ _ ∧ _ ∧ _ ∧ _ ∧ Below w7.heap.size w7 _›).2.2.2.2.2.2) (by first | exact hqi | exact hqi.below ((Below.refl _ _).drew))).mono ?_; rintro e wv ⟨rfl, hbv⟩; have hBv := (‹_ ∧ _ ∧ _ ∧ _ ∧ _ ∧ _ ∧ Below w7.heap.size w7 _›).2.2.2.2.2.2.trans (hbv.mono (‹_ ∧ _ ∧ _ ∧ _ ∧ _ ∧ _ ∧ Below w7.heap.size w7 _›).2.2.2.2.2.2.size); rw [HV.out, hq, Asset.eqB_self]))
  all_goals
    have HBZ := Lib.hid (HB7.out.trans (hBv.mono HB7.out.size))
    clear x0 x1 x2 y0 y1 y2 lx ly hBv hBw
    go_wp2
    go_ret
    exact Ret.b rfl (by first | exact HBZ.out | exact HBZ.out.drew)

end Go.Proofs.YtgianbcplnciiaaDoor
