/- RaiseRegions of the reference. -/
import Derived.Test.YtpibiieibofggaaRaiS
import Derived.Test.YtpibiieibofggaaRegW
namespace Go.Proofs.Ytpibiieibofggaa
open Go.RowKit

theorem RetLT.no3R {T : TypeId} {L : List Int} {C c M m : Int} {w w' : World} (h : c = C) (hm : m = M) (hL : L = []) (hb : Below w.heap.size w w') : RetLT T 1 i64cells L [.int .i64 M, .int .i64 C] w (.returned (.tuple #[.slice none 0 0, .int .i64 m, .int .i64 c])) w' :=
  ⟨_, by rw [h, hm], by rw [hL]; exact OwnsL.nil_ _ _ _ _ _, hb⟩
theorem RetLT.yes3R {T : TypeId} {L : List Int} {C c M m : Int} {w w' : World} {v : Value} {base : Nat} (h : c = C) (hm : m = M) (ho : OwnsL w' base T 1 i64cells v L) (hbase : w.heap.size ≤ base) (hb : Below w.heap.size w w') : RetLT T 1 i64cells L [.int .i64 M, .int .i64 C] w (.returned (.tuple #[v, .int .i64 m, .int .i64 c])) w' :=
  ⟨_, by rw [h, hm], ho.rebase hbase, hb⟩
theorem rIn_start {budget : Int} (h : 1 ≤ budget) : RIn budget ⟨budget, [], -1⟩ := ⟨by simp only; omega, Int.le_refl _, by simp, by simp, by simp⟩
set_option maxRecDepth 100000 in
set_option maxHeartbeats 2000000 in
theorem specRaiseRegions_any (most budget : Int) (A : Option Addr) (n c : Nat) (xs : List Region) (w : World) (hx : Region.Sl w A n xs) (hg : ∀ x ∈ xs, x.Good) :
    Calls Try.prog 16 #[.slice A n c, .int .i64 most, .int .i64 budget] w (RetLT 2 1 i64cells (raiR xs most budget) [.int .i64 (raiL xs most budget), .int .i64 (raiC xs most budget)] w) := by
  have HX := Lib.hid hx
  have HL := Lib.hid hx.len
  have HG := Lib.hid hg
  clear hx hg
  cases hv : regionsB xs
  · have HN : Hid (raiC xs most budget = 1) := raiC_bad hv
    have HM := Lib.hid (rai_no (show raiC xs most budget ≠ 0 by rw [HN.out]; decide))
    go_enter Try.func16, Try.ntmps16
    go_wp2_with fail
    refine (l18Ok_any A n c xs _ HX.out HG.out).mono ?_
    rintro e w1 ⟨rfl, hb1⟩
    rw [hv]
    clear hv
    go_wp2
    go_ret3
    exact RetLT.no3R HN.out.symm HM.out.1.symm HM.out.2 hb1
  cases hmo : inB most 0 8
  · have HN : Hid (raiC xs most budget = 2) := raiC_range hv (.inl hmo)
    have HM := Lib.hid (rai_no (show raiC xs most budget ≠ 0 by rw [HN.out]; decide))
    go_enter Try.func16, Try.ntmps16
    go_wp2_with fail
    refine (l18Ok_any A n c xs _ HX.out HG.out).mono ?_
    rintro e w1 ⟨rfl, hb1⟩
    rw [hv]
    clear hv
    go_wp2_with (go_at_call 42; refine (l00In_any _ _ _ _).mono ?_; rintro e w' ⟨rfl, rfl⟩)
    go_ret3
    exact RetLT.no3R HN.out.symm HM.out.1.symm HM.out.2 hb1
  cases hbu : inB budget 1 20000
  · have HN : Hid (raiC xs most budget = 2) := raiC_range hv (.inr hbu)
    have HM := Lib.hid (rai_no (show raiC xs most budget ≠ 0 by rw [HN.out]; decide))
    go_enter Try.func16, Try.ntmps16
    go_wp2_with fail
    refine (l18Ok_any A n c xs _ HX.out HG.out).mono ?_
    rintro e w1 ⟨rfl, hb1⟩
    rw [hv]
    clear hv
    go_wp2_with (go_at_call 42; refine (l00In_any _ _ _ _).mono ?_; rintro e w' ⟨rfl, rfl⟩)
    go_ret3
    exact RetLT.no3R HN.out.symm HM.out.1.symm HM.out.2 hb1
  have HN0 := Lib.hid (raiC_on hv hmo hbu)
  have HV := Lib.hid hv
  have ⟨hU0, hU1⟩ := inB_iff.1 hbu
  have h8 : n ≤ 8 := by rw [← HL.out]; exact regionsB_len hv
  go_enter Try.func16, Try.ntmps16
  go_wp2_with fail
  refine (l18Ok_any A n c xs _ HX.out HG.out).mono ?_
  rintro e w1 ⟨rfl, hb1⟩
  rw [hv]
  have HB1 := Lib.hid hb1
  have HX1 := Lib.hid (HX.out.below hb1)
  clear hb1 hv
  go_wp2_with (go_at_call 42; refine (l00In_any _ _ _ _).mono ?_; rintro e w' ⟨rfl, rfl⟩)
  obtain ⟨wa, hwa⟩ : ∃ wa, w1.alloc (.cells #[.slice A n c, .int .i64 most, .slice none 0 0, .slice none 0 0, .int .i64 (-1), .int .i64 0, .int .i64 budget, .bool false] 72) = wa := ⟨_, rfl⟩
  have HTA : Hid (SeekAt (raiSC A n c most budget) RSt.best 72 w1 w1.heap.size [] ⟨budget, [], -1⟩ (.slice none 0 0) (.slice none 0 0) wa) := by
    rw [Hid, ← hwa]
    refine ⟨?_, OwnsL.nil_ _ _ _ _ _, OwnsL.nil_ _ _ _ _ _, fun k hk => by simp [Value.ownBlock] at hk, fun k hk => by simp [Value.ownBlock] at hk, fun k hk => by simp [Value.ownBlock] at hk, (Below.refl _ _).alloc (Nat.le_refl _) _, Nat.le_refl _⟩
    have h := Own.new w1 72 (raiSC A n c most budget (.slice none 0 0) (.slice none 0 0) ⟨budget, [], -1⟩)
    simp only [raiSC, Int.sub_self, if_neg (show ¬ budget < 0 by omega), decide_eq_false (show ¬ budget < 0 by omega)] at h ⊢
    exact h
  rw [hwa]
  clear hwa
  (with_reducible refine (raiRun_any A n c most budget xs w1 w1.heap.size HX1.out HV.out hU0 hU1 n [] 0 ⟨budget, [], -1⟩ _ _ wa HTA.out ?_ (rIn_start hU0) ?_ (Int.le_refl _) ?_).mono ?_)
  · simp
  · show (0 : Int) ≤ budget; omega
  · omega
  rintro e w8 ⟨vr8, vb8, rfl, hT8⟩
  obtain ⟨s8, hs8⟩ : ∃ z, raise0 xs most budget = z := ⟨_, rfl⟩
  have hs8' : goR xs most n [] 0 ⟨budget, [], -1⟩ = s8 := by rw [← hs8, raise0, HL.out]
  rw [hs8'] at hT8
  have HS8 := Lib.hid hs8
  have HT8 := Lib.hid hT8
  have HBW : Hid (Below w.heap.size w w8) := HB1.out.trans (HT8.out.below.mono HB1.out.size)
  clear hs8 hs8' hT8
  obtain ⟨AB, cB, rfl, hz1, hz2, hz3⟩ := HT8.out.best.look
  clear hz1 hz2 hz3
  by_cases hb8 : s8.bud < 0
  · have HN : Hid (raiC xs most budget = 5) := by rw [Hid, HN0.out, HS8.out, if_pos hb8]
    have HM := Lib.hid (rai_no (show raiC xs most budget ≠ 0 by rw [HN.out]; decide))
    have y7 : w8.cell? ⟨w1.heap.size, 7, none⟩ = some (.bool true) := (HT8.out.box.cell 7).trans (by unfold raiSC; rw [decide_eq_true hb8]; rfl)
    have lb := HT8.out.box.lt
    clear hb8
    go_wp2
    go_ret3
    exact RetLT.no3R HN.out.symm HM.out.1.symm HM.out.2 HBW.out
  obtain ⟨y0, y1, y2, y3, y4, y5, y6, y7, dd, lb⟩ := raiS_cells HT8.out (by omega)
  by_cases hl : s8.least < 0
  · have HN : Hid (raiC xs most budget = 3) := by rw [Hid, HN0.out, HS8.out, if_neg hb8, if_pos hl]
    have HM := Lib.hid (rai_no (show raiC xs most budget ≠ 0 by rw [HN.out]; decide))
    go_wp2
    go_ret3
    exact RetLT.no3R HN.out.symm HM.out.1.symm HM.out.2 HBW.out
  · have HN : Hid (raiC xs most budget = 0) := by rw [Hid, HN0.out, HS8.out, if_neg hb8, if_neg hl]
    have HM := Lib.hid (rai_yes HN.out)
    rw [HS8.out] at HM
    have hd : decide (s8.least < 0) = false := decide_eq_false hl
    have hsub := fun (g : Sub w8) b o (h : b < w8.heap.size) => g.cell b o h
    go_wp2_with fail
    clear hd
    go_wp2_with fail
    refine wp_region_sub (by kernel_rfl) (by kernel_rfl) ?_
    repeat (go_big_quiet_step (fail))
    refine wpQuiet_nil ?_
    intro wg hg
    have HTG := Lib.hid (HT8.out.grow hg)
    have HBG := Lib.hid (HBW.out.trans (hg.mono HBW.out.size))
    clear y0 y1 y2 y3 y4 y5 y6 y7 dd lb hsub hg hl hb8
    go_wp2
    go_ret3
    exact RetLT.yes3R HN.out.symm HM.out.1.symm (HM.out.2 ▸ HTG.out.best) HB1.out.size HBG.out

end Go.Proofs.Ytpibiieibofggaa
