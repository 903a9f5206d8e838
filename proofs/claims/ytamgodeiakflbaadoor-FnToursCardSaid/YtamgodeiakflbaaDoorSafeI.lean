/- SafestRoute of the reference and of the program. -/
import Derived.Test.YtamgodeiakflbaaDoorSafeN
import Derived.Test.YtamgodeiakflbaaDoorSafeV
import Derived.Test.YtamgodeiakflbaaDoorFastS
namespace Go.Proofs.YtamgodeiakflbaaDoor
open Go.RowKit

theorem safeC_ask {pts : Int} {xs : List Leg} {s g limit budget : Int} (h : askC pts xs s g ≠ 0) : safeC pts xs s g limit budget = askC pts xs s g := by
  unfold safeC askC at *
  split
  · rfl
  · split
    · rfl
    · rename_i h1 h2
      rw [if_neg h1, if_neg h2] at h
      exact absurd rfl h
theorem safeC_lim {pts : Int} {xs : List Leg} {s g limit budget : Int} (h : askC pts xs s g = 0) (hl : (inB limit 0 10000 && inB budget 1 20000) = false) : safeC pts xs s g limit budget = 2 := by
  unfold safeC
  unfold askC at h
  split at h
  · cases h
  · split at h
    · cases h
    · rename_i h1 h2
      rw [if_neg h1, if_neg h2, if_pos hl]
theorem safeC_on {n a b : Nat} {xs : List Leg} {limit budget : Int} (h : askC n xs a b = 0) (hl : (inB limit 0 10000 && inB budget 1 20000) = true) : safeC n xs a b limit budget = if (safe0 xs n a b limit budget).bud < 0 then 5 else if (safe0 xs n a b limit budget).least < 0 then 3 else 0 := by
  unfold safeC
  unfold askC at h
  split at h
  · cases h
  · split at h
    · cases h
    · rename_i h1 h2
      rw [if_neg h1, if_neg h2, if_neg (by rw [hl]; simp), Int.toNat_natCast]
theorem safe_no {pts : Int} {xs : List Leg} {s g limit budget : Int} (h : safeC pts xs s g limit budget ≠ 0) : safeL pts xs s g limit budget = 0 ∧ safeR pts xs s g limit budget = [] := by
  unfold safeL safeR; rw [if_neg h, if_neg h]; exact ⟨rfl, rfl⟩
theorem safe_yes {n a b : Nat} {xs : List Leg} {limit budget : Int} (h : safeC n xs a b limit budget = 0) : safeL n xs a b limit budget = (safe0 xs n a b limit budget).least ∧ safeR n xs a b limit budget = (safe0 xs n a b limit budget).best := by
  unfold safeL safeR; rw [if_pos h, if_pos h, Int.toNat_natCast]; exact ⟨rfl, rfl⟩
theorem rtOk_start {n a : Nat} {limit : Int} (ha : a < n) (h0 : 0 ≤ limit) (h1 : limit ≤ 10000) : RtOk n (n + 1) [(a : Int)] limit 0 :=
  ⟨by simp, fun x hx => by simp at hx; omega, by have := unseen_le n [(a : Int)]; omega, by have := unseen_le n [(a : Int)]; simp; omega, h0, h1, Int.le_refl _, by simp⟩
set_option maxHeartbeats 400000 in
theorem budgetValid_any (b : Int) (w : World) : Calls Tryd.prog 28 #[.int .i64 b] w (RetS (.bool (inB b 1 20000)) w) := by
  go_enter Tryd.func28, Tryd.ntmps28
  go_wp2_with (go_at_call 19; refine (within_any _ _ _ _).mono ?_; rintro e w' ⟨rfl, rfl⟩)
  go_ret
  exact RetS.b rfl
set_option maxRecDepth 100000 in
set_option maxHeartbeats 2000000 in
theorem implSafest_any (pts s g limit budget : Int) (A : Option Addr) (nl c : Nat) (xs : List Leg) (w : World) (hx : SliceOf w 4 Leg.cells A nl xs) :
    Calls Tryd.prog 10 #[.int .i64 pts, .slice A nl c, .int .i64 s, .int .i64 g, .int .i64 limit, .int .i64 budget] w (RetLT 2 1 i64cells (safeR pts xs s g limit budget) [.int .i64 (safeL pts xs s g limit budget), .int .i64 (safeC pts xs s g limit budget)] w) := by
  have HX := Lib.hid hx
  clear hx
  cases hv : legsOk pts xs
  · have HA : askC pts xs s g = 1 := by unfold askC; rw [if_pos hv]
    have HN : Hid (safeC pts xs s g limit budget = 1) := by rw [Hid, safeC_ask (by rw [HA]; decide), HA]
    have HM := Lib.hid (safe_no (show safeC pts xs s g limit budget ≠ 0 by rw [HN.out]; decide))
    clear HA
    go_enter Tryd.func10, Tryd.ntmps10
    go_wp2_with fail
    refine (implValidLegs_any _ _ _ _ xs _ HX.out).mono ?_
    rintro e w1 ⟨rfl, hb1⟩
    go_wp2
    go_ret3
    exact RetLT.no3 HN.out.symm HM.out.1.symm HM.out.2 hb1
  have ⟨_, _⟩ := legsOk_pts hv
  have HV := Lib.hid hv
  by_cases hc : (inB s 0 (pts - 1) && inB g 0 (pts - 1) && inB limit 0 10000 && inB budget 1 20000) = true
  rotate_left
  · have HN : Hid (safeC pts xs s g limit budget = 2) := by
      rw [Hid]
      unfold safeC
      rw [if_neg (by rw [hv]; simp)]
      cases h1 : (inB s 0 (pts - 1) && inB g 0 (pts - 1))
      · rw [if_pos rfl]
      · rw [if_neg (by simp), if_pos]
        rw [h1, Bool.true_and] at hc
        simpa using hc
    have HM := Lib.hid (safe_no (show safeC pts xs s g limit budget ≠ 0 by rw [HN.out]; decide))
    have hcc : inB s 0 (pts - 1) = false ∨ (inB s 0 (pts - 1) = true ∧ inB g 0 (pts - 1) = false) ∨ (inB s 0 (pts - 1) = true ∧ inB g 0 (pts - 1) = true ∧ inB limit 0 10000 = false) ∨ (inB s 0 (pts - 1) = true ∧ inB g 0 (pts - 1) = true ∧ inB limit 0 10000 = true ∧ inB budget 1 20000 = false) := by
      cases h1 : inB s 0 (pts - 1) <;> cases h2 : inB g 0 (pts - 1) <;> cases h3 : inB limit 0 10000 <;> cases h4 : inB budget 1 20000 <;> simp [h1, h2, h3, h4] at hc ⊢
    clear hc hv
    rcases hcc with c0 | ⟨c0, c1⟩ | ⟨c0, c1, c2⟩ | ⟨c0, c1, c2, c3⟩
    all_goals
      go_enter Tryd.func10, Tryd.ntmps10
      go_wp2_with fail
      refine (implValidLegs_any _ _ _ _ xs _ HX.out).mono ?_
      rintro e w1 ⟨rfl, hb1⟩
      rw [HV.out]
      go_wp2_with (first | (go_at_call 19; refine (within_any _ _ _ _).mono ?_; rintro e w' ⟨rfl, rfl⟩) | (go_at_call 28; refine (budgetValid_any _ _).mono ?_; rintro e w' ⟨rfl, rfl⟩))
      go_ret3
      exact RetLT.no3 HN.out.symm HM.out.1.symm HM.out.2 hb1
  simp only [Bool.and_eq_true] at hc
  obtain ⟨⟨⟨c0, c1⟩, c2⟩, c3⟩ := hc
  have H0 : Hid (askC pts xs s g = 0) := by rw [Hid]; unfold askC; rw [if_neg (by rw [hv]; simp), if_neg (by rw [c0, c1]; simp)]
  obtain ⟨n, a0, b0, rfl, rfl, rfl, _, ha0, hb0, hn12⟩ := askC_zero H0.out
  have HN0 := Lib.hid (safeC_on (xs := xs) (n := n) (a := a0) (b := b0) H0.out (show (inB limit 0 10000 && inB budget 1 20000) = true by rw [c2, c3]; rfl))
  have ⟨hL0, hL1⟩ := inB_iff.1 c2
  have ⟨hU0, hU1⟩ := inB_iff.1 c3
  clear hv
  go_enter Tryd.func10, Tryd.ntmps10
  go_wp2_with fail
  refine (implValidLegs_any _ _ _ _ xs _ HX.out).mono ?_
  rintro e w1 ⟨rfl, hb1⟩
  rw [HV.out]
  have HB1 := Lib.hid hb1
  have HX1 := Lib.hid (HX.out.below hb1)
  clear hb1
  go_wp2_with (first | (go_at_call 19; refine (within_any _ _ _ _).mono ?_; rintro e w' ⟨rfl, rfl⟩) | (go_at_call 28; refine (budgetValid_any _ _).mono ?_; rintro e w' ⟨rfl, rfl⟩))
  obtain ⟨wa, hwa⟩ : ∃ wa, (w1.alloc (.cells #[.int .i64 a0] 2)).alloc (.cells #[.int .i64 n, .slice A nl c, .int .i64 b0, .int .i64 budget, .slice (some ⟨w1.heap.size, 0, none⟩) 1 1, .slice none 0 0, .int .i64 (-1)] 56) = wa := ⟨_, rfl⟩
  have HTA : Hid (TourAt (tourC n b0 A nl c) 56 w1 (w1.heap.size + 1) [(a0 : Int)] ⟨budget, [], -1⟩ (.slice (some ⟨w1.heap.size, 0, none⟩) 1 1) (.slice none 0 0) wa) := by
    rw [Hid, ← hwa]
    refine ⟨?_, (ownsL_lit w1 [(a0 : Int)] _ (Nat.le_refl _) (by simp)).alloc _, OwnsL.nil_ _ _ _ _ _, fun k hk => by simp [Value.ownBlock] at hk; omega, fun k hk => by simp [Value.ownBlock] at hk, fun k _ hk => by simp [Value.ownBlock] at hk, ((Below.refl _ _).alloc (Nat.le_refl _) _).alloc (by simp) _, by omega⟩
    have h := Own.new (w1.alloc (.cells #[.int .i64 a0] 2)) 56 (tourC n b0 A nl c (.slice (some ⟨w1.heap.size, 0, none⟩) 1 1) (.slice none 0 0) ⟨budget, [], -1⟩)
    simp only [tourC] at h ⊢
    simpa using h
  rw [hwa]
  clear hwa
  (with_reducible refine (visit_any n b0 A nl c xs w1 (w1.heap.size + 1) HX1.out HV.out hn12 (n + 1) [(a0 : Int)] limit 0 ⟨budget, [], -1⟩ _ _ wa HTA.out (rtOk_start ha0 hL0 hL1) ?_ ?_).mono ?_)
  · show (0 : Int) ≤ budget; omega
  · show budget ≤ 20000; omega
  rintro e w8 ⟨rfl, vr8, vb8, hT8⟩
  obtain ⟨s8, hs8⟩ : ∃ z, safe0 xs n a0 b0 limit budget = z := ⟨_, rfl⟩
  have hs8' : goS xs n b0 (n + 1) [(a0 : Int)] limit 0 ⟨budget, [], -1⟩ = s8 := hs8
  rw [hs8'] at hT8
  have HS8 := Lib.hid hs8
  have HT8 := Lib.hid hT8
  have HBW : Hid (Below w.heap.size w w8) := HB1.out.trans (HT8.out.below.mono HB1.out.size)
  clear hs8 hs8' hT8
  obtain ⟨AB, cB, rfl, _, _, _⟩ := HT8.out.best.slice i64cells_len
  obtain ⟨y0, y1, y2, y3, y4, y5, y6, dd, lb⟩ := tour_cells HT8.out
  by_cases hb8 : s8.bud < 0
  · have HN : Hid (safeC n xs a0 b0 limit budget = 5) := by rw [Hid, HN0.out, HS8.out, if_pos hb8]
    have HM := Lib.hid (safe_no (show safeC n xs a0 b0 limit budget ≠ 0 by rw [HN.out]; decide))
    go_wp2
    go_ret3
    exact RetLT.no3 HN.out.symm HM.out.1.symm HM.out.2 HBW.out
  have HB8 := Lib.hid hb8
  have hd0 : decide (s8.bud < 0) = false := decide_eq_false hb8
  by_cases hl : s8.least < 0
  · have HN : Hid (safeC n xs a0 b0 limit budget = 3) := by rw [Hid, HN0.out, HS8.out, if_neg hb8, if_pos hl]
    have HM := Lib.hid (safe_no (show safeC n xs a0 b0 limit budget ≠ 0 by rw [HN.out]; decide))
    go_wp2
    go_ret3
    exact RetLT.no3 HN.out.symm HM.out.1.symm HM.out.2 HBW.out
  · have HN : Hid (safeC n xs a0 b0 limit budget = 0) := by rw [Hid, HN0.out, HS8.out, if_neg hb8, if_neg hl]
    have HM := Lib.hid (safe_yes HN.out)
    rw [HS8.out] at HM
    have hd : decide (s8.least < 0) = false := decide_eq_false hl
    have hsub := fun (g : Sub w8) b o (h : b < w8.heap.size) => g.cell b o h
    go_wp2_with fail
    clear hd hd0
    go_wp2_with fail
    refine wp_region_sub (by kernel_rfl) (by kernel_rfl) ?_
    repeat (go_big_quiet_step (fail))
    refine wpQuiet_nil ?_
    intro wg hg
    have HTG := Lib.hid (HT8.out.grow hg)
    have HBG := Lib.hid (HBW.out.trans (hg.mono HBW.out.size))
    clear y0 y1 y2 y3 y4 y5 y6 dd lb hsub hg hl hb8
    go_wp2
    go_ret3
    exact RetLT.yes3 HN.out.symm HM.out.1.symm (HM.out.2 ▸ HTG.out.best) HB1.out.size HBG.out

end Go.Proofs.YtamgodeiakflbaaDoor
