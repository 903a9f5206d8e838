/- FairTurns of the reference and of the program. -/
import Derived.Test.YtbblgididefgdaaFairS
import Derived.Test.YtbblgididefgdaaFairV
import Derived.Test.YtbblgididefgdaaFairQ
namespace Go.Proofs.Ytbblgididefgdaa
open Go.RowKit

theorem RetLT.no3 {T : TypeId} {L : List Int} {C c M m : Int} {w w' : World} (h : c = C) (hm : m = M) (hL : L = []) (hb : Below w.heap.size w w') : RetLT T 1 i64cells L [.int .i64 M, .int .i64 C] w (.returned (.tuple #[.slice none 0 0, .int .i64 m, .int .i64 c])) w' :=
  ⟨_, by rw [h, hm], by rw [hL]; exact OwnsL.nil_ _ _ _ _ _, hb⟩
theorem RetLT.yes3 {T : TypeId} {L : List Int} {C c M m : Int} {w w' : World} {v : Value} {base : Nat} (h : c = C) (hm : m = M) (ho : OwnsL w' base T 1 i64cells v L) (hbase : w.heap.size ≤ base) (hb : Below w.heap.size w w') : RetLT T 1 i64cells L [.int .i64 M, .int .i64 C] w (.returned (.tuple #[v, .int .i64 m, .int .i64 c])) w' :=
  ⟨_, by rw [h, hm], ho.rebase hbase, hb⟩
theorem turnsC_cases (people turns gap : Int) (ab : List Row) : turnsC people turns gap ab = 2 ∨ turnsC people turns gap ab = 7 ∨ turnsC people turns gap ab = 0 := by
  unfold turnsC; split
  · exact .inl rfl
  · split
    · exact .inr (.inl rfl)
    · split
      · exact .inr (.inl rfl)
      · exact .inr (.inr rfl)
theorem fIn_start {budget : Int} (h : 1 ≤ budget) : FIn budget 12 ⟨budget, [], -1⟩ := ⟨by simp only; omega, Int.le_refl _, by simp, by simp, by simp⟩
set_option maxRecDepth 100000 in
set_option maxHeartbeats 1000000 in
theorem specFairTurns_any (people turns gap budget : Int) (A : Option Addr) (n c : Nat) (ab : List Row) (w : World) (hx : Row.Sl w A n ab) :
    Calls Try.prog 5 #[.int .i64 people, .int .i64 turns, .int .i64 gap, .slice A n c, .int .i64 budget] w (RetLT 2 1 i64cells (fairR people turns gap ab budget) [.int .i64 (fairL people turns gap ab budget), .int .i64 (fairC people turns gap ab budget)] w) := by
  rcases turnsC_cases people turns gap ab with hC | hC | hC
  · have HN : Hid (fairC people turns gap ab budget = 2) := fairC_range (.inl hC)
    have HM := Lib.hid (fair_no (show fairC people turns gap ab budget ≠ 0 by rw [HN.out]; decide))
    have HC := Lib.hid hC
    clear hC
    go_enter Try.func5, Try.ntmps5
    go_wp2_with fail
    refine (l26Query_any people turns gap A n c ab _ hx).mono ?_
    rintro e w1 ⟨rfl, hb1⟩
    rw [HC.out]
    go_wp2
    go_ret3
    exact RetLT.no3 HN.out.symm HM.out.1.symm HM.out.2 hb1
  · have HC := Lib.hid hC
    clear hC
    cases hbu : inB budget 1 20000
    · have HN : Hid (fairC people turns gap ab budget = 2) := fairC_range (.inr hbu)
      have HM := Lib.hid (fair_no (show fairC people turns gap ab budget ≠ 0 by rw [HN.out]; decide))
      go_enter Try.func5, Try.ntmps5
      go_wp2_with fail
      refine (l26Query_any people turns gap A n c ab _ hx).mono ?_
      rintro e w1 ⟨rfl, hb1⟩
      rw [HC.out]
      go_wp2_with (go_at_call 15; refine (l00In_any _ _ _ _).mono ?_; rintro e w' ⟨rfl, rfl⟩)
      go_ret3
      exact RetLT.no3 HN.out.symm HM.out.1.symm HM.out.2 hb1
    · have HN : Hid (fairC people turns gap ab budget = 7) := by rw [Hid, fairC_code (by rw [HC.out]; decide) (by rw [HC.out]; decide) hbu, HC.out]
      have HM := Lib.hid (fair_no (show fairC people turns gap ab budget ≠ 0 by rw [HN.out]; decide))
      go_enter Try.func5, Try.ntmps5
      go_wp2_with fail
      refine (l26Query_any people turns gap A n c ab _ hx).mono ?_
      rintro e w1 ⟨rfl, hb1⟩
      rw [HC.out]
      go_wp2_with (go_at_call 15; refine (l00In_any _ _ _ _).mono ?_; rintro e w' ⟨rfl, rfl⟩)
      go_ret3
      exact RetLT.no3 HN.out.symm HM.out.1.symm HM.out.2 hb1
  have HC := Lib.hid hC
  cases hbu : inB budget 1 20000
  · have HN : Hid (fairC people turns gap ab budget = 2) := fairC_range (.inr hbu)
    have HM := Lib.hid (fair_no (show fairC people turns gap ab budget ≠ 0 by rw [HN.out]; decide))
    clear hC
    go_enter Try.func5, Try.ntmps5
    go_wp2_with fail
    refine (l26Query_any people turns gap A n c ab _ hx).mono ?_
    rintro e w1 ⟨rfl, hb1⟩
    rw [HC.out]
    go_wp2_with (go_at_call 15; refine (l00In_any _ _ _ _).mono ?_; rintro e w' ⟨rfl, rfl⟩)
    go_ret3
    exact RetLT.no3 HN.out.symm HM.out.1.symm HM.out.2 hb1
  obtain ⟨p, m, g, rfl, rfl, rfl, hok⟩ := turnsC_zero hC
  have HN0 := Lib.hid (fairC_on (n := p) (m := m) (g := g) (ab := ab) HC.out hbu)
  have HOK := Lib.hid hok
  have HPN : Hid (n = p) := by rw [Hid, ← hx.len]; exact hok.len
  have HX := Lib.hid hx
  have ⟨hU0, hU1⟩ := inB_iff.1 hbu
  clear hC hok hx
  go_enter Try.func5, Try.ntmps5
  go_wp2_with fail
  refine (l26Query_any _ _ _ A n c ab _ HX.out).mono ?_
  rintro e w1 ⟨rfl, hb1⟩
  rw [HC.out]
  have HB1 := Lib.hid hb1
  have HX1 := Lib.hid (HX.out.below hb1)
  clear hb1
  go_wp2_with (go_at_call 15; refine (l00In_any _ _ _ _).mono ?_; rintro e w' ⟨rfl, rfl⟩)
  obtain ⟨wa, hwa⟩ : ∃ wa, w1.alloc (.cells #[.int .i64 p, .int .i64 m, .int .i64 g, .slice A n c, .slice none 0 0, .slice none 0 0, .int .i64 (-1), .int .i64 0, .int .i64 budget, .bool false] 36) = wa := ⟨_, rfl⟩
  have HTA : Hid (SeekAt (fairSC p m g budget A n c) FSt.best 36 w1 w1.heap.size [] ⟨budget, [], -1⟩ (.slice none 0 0) (.slice none 0 0) wa) := by
    rw [Hid, ← hwa]
    refine ⟨?_, OwnsL.nil_ _ _ _ _ _, OwnsL.nil_ _ _ _ _ _, fun k hk => by simp [Value.ownBlock] at hk, fun k hk => by simp [Value.ownBlock] at hk, fun k hk => by simp [Value.ownBlock] at hk, (Below.refl _ _).alloc (Nat.le_refl _) _, Nat.le_refl _⟩
    have h := Own.new w1 36 (fairSC p m g budget A n c (.slice none 0 0) (.slice none 0 0) ⟨budget, [], -1⟩)
    simp only [fairSC, Int.sub_self, if_neg (show ¬ budget < 0 by omega), decide_eq_false (show ¬ budget < 0 by omega)] at h ⊢
    exact h
  rw [hwa]
  clear hwa
  (with_reducible refine (fairRun_any p m g budget A n c ab w1 w1.heap.size HX1.out HOK.out HPN.out hU0 hU1 m [] ⟨budget, [], -1⟩ _ _ wa HTA.out ?_ (fIn_start hU0) ?_).mono ?_)
  · simp
  · show (0 : Int) ≤ budget; omega
  rintro e w8 ⟨vr8, vb8, rfl, hT8⟩
  obtain ⟨s8, hs8⟩ : ∃ z, fair0 p m g ab budget = z := ⟨_, rfl⟩
  have hs8' : goF p g ab m [] ⟨budget, [], -1⟩ = s8 := hs8
  rw [hs8'] at hT8
  have HS8 := Lib.hid hs8
  have HT8 := Lib.hid hT8
  have HBW : Hid (Below w.heap.size w w8) := HB1.out.trans (HT8.out.below.mono HB1.out.size)
  clear hs8 hs8' hT8
  obtain ⟨AB, cB, rfl, _, _, _⟩ := HT8.out.best.look
  by_cases hb8 : s8.bud < 0
  · have HN : Hid (fairC p m g ab budget = 5) := by rw [Hid, HN0.out, HS8.out, if_pos hb8]
    have HM := Lib.hid (fair_no (show fairC p m g ab budget ≠ 0 by rw [HN.out]; decide))
    have y9 : w8.cell? ⟨w1.heap.size, 9, none⟩ = some (.bool true) := (HT8.out.box.cell 9).trans (by unfold fairSC; rw [decide_eq_true hb8]; rfl)
    have lb := HT8.out.box.lt
    clear hb8
    go_wp2
    go_ret3
    exact RetLT.no3 HN.out.symm HM.out.1.symm HM.out.2 HBW.out
  obtain ⟨y0, y1, y2, y3, y4, y5, y6, y7, y8, y9, dd, lb⟩ := fairS_cells HT8.out (by omega)
  by_cases hl : s8.least < 0
  · have HN : Hid (fairC p m g ab budget = 3) := by rw [Hid, HN0.out, HS8.out, if_neg hb8, if_pos hl]
    have HM := Lib.hid (fair_no (show fairC p m g ab budget ≠ 0 by rw [HN.out]; decide))
    go_wp2
    go_ret3
    exact RetLT.no3 HN.out.symm HM.out.1.symm HM.out.2 HBW.out
  · have HN : Hid (fairC p m g ab budget = 0) := by rw [Hid, HN0.out, HS8.out, if_neg hb8, if_neg hl]
    have HM := Lib.hid (fair_yes HN.out)
    rw [HS8.out] at HM
    have hd : decide (s8.least < 0) = false := decide_eq_false hl
    have hsub := fun (g : Sub w8) b o (h : b < w8.heap.size) => g.cell b o h
    go_wp2_with fail
    clear hd
    go_wp2_with fail
    refine wp_region_sub (by kernel_rfl) (by kernel_rfl) ?_
    repeat (go_big_quiet_step (fail))
    refine wpQuiet_nil ?_
    intro wg hg
    have HTG := Lib.hid (HT8.out.grow hg)
    have HBG := Lib.hid (HBW.out.trans (hg.mono HBW.out.size))
    clear y0 y1 y2 y3 y4 y5 y6 y7 y8 y9 dd lb hsub hg hl hb8
    go_wp2
    go_ret3
    exact RetLT.yes3 HN.out.symm HM.out.1.symm (HM.out.2 ▸ HTG.out.best) HB1.out.size HBG.out
set_option maxHeartbeats 400000 in
theorem budgetValid_any (b : Int) (w : World) : Calls Try.prog 19 #[.int .i64 b] w (RetS (.bool (inB b 1 20000)) w) := by
  go_enter Try.func19, Try.ntmps19
  go_wp2_with (go_at_call 25; refine (within_any _ _ _ _).mono ?_; rintro e w' ⟨rfl, rfl⟩)
  go_ret
  exact RetS.b rfl
set_option maxRecDepth 100000 in
set_option maxHeartbeats 2000000 in
theorem implFairTurns_any (people turns gap budget : Int) (A : Option Addr) (n c : Nat) (ab : List Row) (w : World) (hx : Row.Sl w A n ab) :
    Calls Try.prog 7 #[.int .i64 people, .int .i64 turns, .int .i64 gap, .slice A n c, .int .i64 budget] w (RetLT 2 1 i64cells (fairR people turns gap ab budget) [.int .i64 (fairL people turns gap ab budget), .int .i64 (fairC people turns gap ab budget)] w) := by
  have HX := Lib.hid hx
  clear hx
  by_cases hC : turnsC people turns gap ab = 0
  rotate_left
  · have HC0 := Lib.hid hC
    have HCC : Hid (turnsC people turns gap ab = 2 ∨ turnsC people turns gap ab = 7) := by
      rcases turnsC_cases people turns gap ab with h | h | h
      · exact .inl h
      · exact .inr h
      · exact absurd h hC
    clear hC
    go_enter Try.func7, Try.ntmps7
    go_wp2_with fail
    refine (newTurns_any people turns gap A n c ab _ HX.out).mono ?_
    rintro e w1 ⟨⟨_, rfl⟩ | ⟨h0, _⟩, hb1⟩
    rotate_left
    · exact absurd h0 HC0.out
    have HB1 := Lib.hid (hb1.alloc hb1.size (.cells #[.int .i64 0, .int .i64 0, .int .i64 0, .slice none 0 0, .map none] 40))
    clear hb1
    rcases HCC.out with h2 | h7
    · have HN : Hid (fairC people turns gap ab budget = 2) := fairC_range (.inl h2)
      have HM := Lib.hid (fair_no (show fairC people turns gap ab budget ≠ 0 by rw [HN.out]; decide))
      rw [h2]
      clear h2
      go_wp2
      go_ret3
      exact RetLT.no3 HN.out.symm HM.out.1.symm HM.out.2 HB1.out
    · have HC := Lib.hid h7
      rw [h7]
      clear h7
      cases hbu : inB budget 1 20000
      · have HN : Hid (fairC people turns gap ab budget = 2) := fairC_range (.inr hbu)
        have HM := Lib.hid (fair_no (show fairC people turns gap ab budget ≠ 0 by rw [HN.out]; decide))
        go_wp2_with (go_at_call 19; refine (budgetValid_any _ _).mono ?_; rintro e w' ⟨rfl, rfl⟩)
        go_ret3
        exact RetLT.no3 HN.out.symm HM.out.1.symm HM.out.2 HB1.out
      · have HN : Hid (fairC people turns gap ab budget = 7) := by rw [Hid, fairC_code (by rw [HC.out]; decide) (by rw [HC.out]; decide) hbu, HC.out]
        have HM := Lib.hid (fair_no (show fairC people turns gap ab budget ≠ 0 by rw [HN.out]; decide))
        go_wp2_with (go_at_call 19; refine (budgetValid_any _ _).mono ?_; rintro e w' ⟨rfl, rfl⟩)
        go_ret3
        exact RetLT.no3 HN.out.symm HM.out.1.symm HM.out.2 HB1.out
  have HC := Lib.hid hC
  obtain ⟨p, m, g, rfl, rfl, rfl, hok⟩ := turnsC_zero hC
  have HOK := Lib.hid hok
  have HPN : Hid (n = p) := by rw [Hid, ← HX.out.len]; exact hok.len
  clear hC hok
  go_enter Try.func7, Try.ntmps7
  go_wp2_with fail
  refine (newTurns_any _ _ _ A n c ab _ HX.out).mono ?_
  rintro e w1 ⟨⟨h0, _⟩ | ⟨_, bm, rfl⟩, hb1⟩
  · exact absurd HC.out h0
  have HX1 := Lib.hid (HX.out.below hb1)
  have HB1 := Lib.hid hb1
  have HB2 := Lib.hid (hb1.alloc hb1.size (.cells #[.int .i64 p, .int .i64 m, .int .i64 g, .slice A n c, .map (some bm)] 40))
  clear hb1
  cases hbu : inB budget 1 20000
  · have HN : Hid (fairC p m g ab budget = 2) := fairC_range (.inr hbu)
    have HM := Lib.hid (fair_no (show fairC p m g ab budget ≠ 0 by rw [HN.out]; decide))
    go_wp2_with (go_at_call 19; refine (budgetValid_any _ _).mono ?_; rintro e w' ⟨rfl, rfl⟩)
    go_ret3
    exact RetLT.no3 HN.out.symm HM.out.1.symm HM.out.2 HB2.out
  have HN0 := Lib.hid (fairC_on (n := p) (m := m) (g := g) (ab := ab) HC.out hbu)
  have ⟨hU0, hU1⟩ := inB_iff.1 hbu
  go_wp2_with (go_at_call 19; refine (budgetValid_any _ _).mono ?_; rintro e w' ⟨rfl, rfl⟩)
  obtain ⟨wa, hwa⟩ : ∃ wa, (w1.alloc (.cells #[.int .i64 p, .int .i64 m, .int .i64 g, .slice A n c, .map (some bm)] 40)).alloc (.cells #[.int .i64 p, .int .i64 m, .int .i64 g, .slice A n c, .map (some bm), .int .i64 budget, .slice none 0 0, .slice none 0 0, .int .i64 (-1)] 45) = wa := ⟨_, rfl⟩
  have HTA : Hid (SeekAt (fairVC p m g A n c (.map (some bm))) FSt.best 45 w1 (w1.heap.size + 1) [] ⟨budget, [], -1⟩ (.slice none 0 0) (.slice none 0 0) wa) := by
    rw [Hid, ← hwa]
    refine ⟨?_, OwnsL.nil_ _ _ _ _ _, OwnsL.nil_ _ _ _ _ _, fun k hk => by simp [Value.ownBlock] at hk, fun k hk => by simp [Value.ownBlock] at hk, fun k hk => by simp [Value.ownBlock] at hk, ((Below.refl _ _).alloc (Nat.le_refl _) _).alloc (by simp) _, by omega⟩
    have h := Own.new (w1.alloc (.cells #[.int .i64 p, .int .i64 m, .int .i64 g, .slice A n c, .map (some bm)] 40)) 45 (fairVC p m g A n c (.map (some bm)) (.slice none 0 0) (.slice none 0 0) ⟨budget, [], -1⟩)
    simp only [fairVC] at h ⊢
    simpa using h
  rw [hwa]
  clear hwa
  (with_reducible refine (fairVisit_any p m g budget A n c (.map (some bm)) ab w1 (w1.heap.size + 1) HX1.out HOK.out HPN.out hU0 hU1 m [] ⟨budget, [], -1⟩ _ _ wa HTA.out ?_ ?_ (fIn_start hU0) ?_).mono ?_)
  · simp
  · intro y hy; simp at hy
  · show (0 : Int) ≤ budget; omega
  rintro e w8 ⟨vr8, vb8, rfl, hT8⟩
  obtain ⟨s8, hs8⟩ : ∃ z, fair0 p m g ab budget = z := ⟨_, rfl⟩
  have hs8' : goF p g ab m [] ⟨budget, [], -1⟩ = s8 := hs8
  rw [hs8'] at hT8
  have HS8 := Lib.hid hs8
  have HT8 := Lib.hid hT8
  have HBW : Hid (Below w.heap.size w w8) := HB1.out.trans (HT8.out.below.mono HB1.out.size)
  clear hs8 hs8' hT8
  obtain ⟨AB, cB, rfl, _, _, _⟩ := HT8.out.best.look
  obtain ⟨y0, y1, y2, y3, y4, y5, y6, y7, y8, dd, lb⟩ := fairV_cells HT8.out
  by_cases hb8 : s8.bud < 0
  · have HN : Hid (fairC p m g ab budget = 5) := by rw [Hid, HN0.out, HS8.out, if_pos hb8]
    have HM := Lib.hid (fair_no (show fairC p m g ab budget ≠ 0 by rw [HN.out]; decide))
    go_wp2
    go_ret3
    exact RetLT.no3 HN.out.symm HM.out.1.symm HM.out.2 HBW.out
  have hd0 : decide (s8.bud < 0) = false := decide_eq_false hb8
  by_cases hl : s8.least < 0
  · have HN : Hid (fairC p m g ab budget = 3) := by rw [Hid, HN0.out, HS8.out, if_neg hb8, if_pos hl]
    have HM := Lib.hid (fair_no (show fairC p m g ab budget ≠ 0 by rw [HN.out]; decide))
    go_wp2
    go_ret3
    exact RetLT.no3 HN.out.symm HM.out.1.symm HM.out.2 HBW.out
  · have HN : Hid (fairC p m g ab budget = 0) := by rw [Hid, HN0.out, HS8.out, if_neg hb8, if_neg hl]
    have HM := Lib.hid (fair_yes HN.out)
    rw [HS8.out] at HM
    have hd : decide (s8.least < 0) = false := decide_eq_false hl
    have hsub := fun (g : Sub w8) b o (h : b < w8.heap.size) => g.cell b o h
    go_wp2_with fail
    clear hd hd0
    go_wp2_with fail
    refine wp_region_sub (by kernel_rfl) (by kernel_rfl) ?_
    repeat (go_big_quiet_step (fail))
    refine wpQuiet_nil ?_
    intro wg hg
    have HTG := Lib.hid (HT8.out.grow hg)
    have HBG := Lib.hid (HBW.out.trans (hg.mono HBW.out.size))
    clear y0 y1 y2 y3 y4 y5 y6 y7 y8 dd lb hsub hg hl hb8
    go_wp2
    go_ret3
    exact RetLT.yes3 HN.out.symm HM.out.1.symm (HM.out.2 ▸ HTG.out.best) HB1.out.size HBG.out

end Go.Proofs.Ytbblgididefgdaa
