/- CountTurns and GiveTurns of the reference. -/
import Derived.Test.YtjidibohbbdboaaDoorCntR
import Derived.Test.YtjidibohbbdboaaDoorCntQ
namespace Go.Proofs.YtjidibohbbdboaaDoor
open Go.RowKit

theorem cnt_start (p m g : Nat) (A : Option Addr) (n c : Nat) (w1 : World) : CntIn p m g A n c w1 w1.heap.size [] [] ⟨[], 0, []⟩ (.slice none 0 0) (.slice none 0 0) (.slice none 0 0) [] (w1.alloc (.cells #[.int .i64 p, .int .i64 m, .int .i64 g, .slice A n c, .slice none 0 0, .slice none 0 0, .int .i64 0, .slice none 0 0] 37)) :=
  ⟨⟨Own.new w1 37 #[.int .i64 p, .int .i64 m, .int .i64 g, .slice A n c, .slice none 0 0, .slice none 0 0, .int .i64 0, .slice none 0 0], OwnsL.nil_ _ _ _ _ _, OwnsL.nil_ _ _ _ _ _, fun k hk => by simp [Value.ownBlock] at hk, fun k hk => by simp [Value.ownBlock] at hk, fun k hk => by simp [Value.ownBlock] at hk, (Below.refl _ _).alloc (Nat.le_refl _) _, Nat.le_refl _⟩,
   ⟨OwnsL.nil_ _ _ _ _ _, fun p hp => by simp at hp, fun k hk => by simp [Value.ownBlock] at hk, fun p hp => by simp at hp⟩, rfl⟩
set_option maxRecDepth 100000 in
set_option maxHeartbeats 1000000 in
theorem specCountTurns_any (people turns gap : Int) (A : Option Addr) (n c : Nat) (ab : List Row) (w : World) (hx : Row.Sl w A n ab) :
    Calls Tryd.prog 6 #[.int .i64 people, .int .i64 turns, .int .i64 gap, .slice A n c] w (Ret (.tuple #[.int .i64 (cntI people turns gap ab), .int .i64 (turnsC people turns gap ab)]) w) := by
  by_cases hC : turnsC people turns gap ab = 0
  rotate_left
  · have HM := Lib.hid (cntI_no hC)
    have hq : (turnsC people turns gap ab != 0) = true := by simp [hC]
    obtain ⟨C, hCC⟩ : ∃ C, turnsC people turns gap ab = C := ⟨_, rfl⟩
    have HCC := Lib.hid hCC
    rw [hCC] at hq
    clear hC hCC
    go_enter Tryd.func6, Tryd.ntmps6
    go_wp2_with fail
    refine (l26Query_any people turns gap A n c ab _ hx).mono ?_
    rintro e w1 ⟨rfl, hb1⟩
    rw [HCC.out]
    go_wp2
    go_ret2
    exact Ret.ii HM.out.symm HCC.out.symm hb1
  have HC := Lib.hid hC
  obtain ⟨p, m, g, rfl, rfl, rfl, hok⟩ := turnsC_zero hC
  have HOK := Lib.hid hok
  have HPN : Hid (n = p) := by rw [Hid, ← hx.len]; exact hok.len
  have HX := Lib.hid hx
  have HR := Lib.hid (run_all (n := p) (m := m) (g := g) (ab := ab) hok.g1)
  clear hC hok hx
  go_enter Tryd.func6, Tryd.ntmps6
  go_wp2_with fail
  refine (l26Query_any _ _ _ A n c ab _ HX.out).mono ?_
  rintro e w1 ⟨rfl, hb1⟩
  rw [HC.out]
  have HB1 := Lib.hid hb1
  have HX1 := Lib.hid (HX.out.below hb1)
  clear hb1
  have HI := Lib.hid (cnt_start p m g A n c w1)
  go_wp2_with fail
  obtain ⟨wa, hwa⟩ : ∃ wa, w1.alloc (.cells #[.int .i64 p, .int .i64 m, .int .i64 g, .slice A n c, .slice none 0 0, .slice none 0 0, .int .i64 0, .slice none 0 0] 37) = wa := ⟨_, rfl⟩
  rw [hwa] at HI ⊢
  clear hwa
  (with_reducible refine (cntRun_any p m g A n c ab w1 w1.heap.size HX1.out HOK.out HPN.out m [] ⟨[], 0, []⟩ _ _ _ [] [] wa HI.out ?_ (by decide) ?_).mono ?_)
  · simp
  · have := capR_le HOK.out.m12; simp; omega
  rintro e w8 ⟨vr8, vf8, vd8, ps8, rfl, hT8, hD8, hl8⟩
  have HT8 := Lib.hid hT8
  have HBW : Hid (Below w.heap.size w w8) := HB1.out.trans (HT8.out.below.mono HB1.out.size)
  clear hD8 hl8
  obtain ⟨y0, y1, y2, y3, y4, y5, y6, y7, dd, lb⟩ := cntS_cells hT8
  simp only at y6
  clear hT8 y0 y1 y2 y3 y4 y5 y7
  go_wp2
  go_ret2
  exact Ret.ii (by rw [cntI_zero HC.out, HR.out.1]) HC.out.symm HBW.out
set_option maxRecDepth 100000 in
set_option maxHeartbeats 1000000 in
theorem specGiveTurns_any (people turns gap : Int) (A : Option Addr) (n c : Nat) (ab : List Row) (w : World) (hx : Row.Sl w A n ab) :
    Calls Tryd.prog 10 #[.int .i64 people, .int .i64 turns, .int .i64 gap, .slice A n c] w (RetLT 2 1 i64cells (giveR people turns gap ab) [.int .i64 (giveC people turns gap ab)] w) := by
  by_cases hC : turnsC people turns gap ab = 0
  rotate_left
  · have HM := Lib.hid (giveC_no hC)
    have hq : (turnsC people turns gap ab != 0) = true := by simp [hC]
    obtain ⟨C, hCC⟩ : ∃ C, turnsC people turns gap ab = C := ⟨_, rfl⟩
    have HCC := Lib.hid hCC
    rw [hCC] at hq
    clear hC hCC
    go_enter Tryd.func10, Tryd.ntmps10
    go_wp2_with fail
    refine (l26Query_any people turns gap A n c ab _ hx).mono ?_
    rintro e w1 ⟨rfl, hb1⟩
    rw [HCC.out]
    go_wp2
    go_ret2
    exact RetLT.no2 (by rw [HM.out.1, HCC.out]) HM.out.2 hb1
  have HC := Lib.hid hC
  obtain ⟨p, m, g, rfl, rfl, rfl, hok⟩ := turnsC_zero hC
  have HOK := Lib.hid hok
  have HPN : Hid (n = p) := by rw [Hid, ← hx.len]; exact hok.len
  have HX := Lib.hid hx
  have HR := Lib.hid (run_all (n := p) (m := m) (g := g) (ab := ab) hok.g1)
  clear hC hok hx
  go_enter Tryd.func10, Tryd.ntmps10
  go_wp2_with fail
  refine (l26Query_any _ _ _ A n c ab _ HX.out).mono ?_
  rintro e w1 ⟨rfl, hb1⟩
  rw [HC.out]
  have HB1 := Lib.hid hb1
  have HX1 := Lib.hid (HX.out.below hb1)
  clear hb1
  have HI := Lib.hid (cnt_start p m g A n c w1)
  go_wp2_with fail
  obtain ⟨wa, hwa⟩ : ∃ wa, w1.alloc (.cells #[.int .i64 p, .int .i64 m, .int .i64 g, .slice A n c, .slice none 0 0, .slice none 0 0, .int .i64 0, .slice none 0 0] 37) = wa := ⟨_, rfl⟩
  rw [hwa] at HI ⊢
  clear hwa
  (with_reducible refine (cntRun_any p m g A n c ab w1 w1.heap.size HX1.out HOK.out HPN.out m [] ⟨[], 0, []⟩ _ _ _ [] [] wa HI.out ?_ (by decide) ?_).mono ?_)
  · simp
  · have := capR_le HOK.out.m12; simp; omega
  rintro e w8 ⟨vr8, vf8, vd8, ps8, rfl, hT8, hD8, hl8⟩
  have HT8 := Lib.hid hT8
  have HBW : Hid (Below w.heap.size w w8) := HB1.out.trans (HT8.out.below.mono HB1.out.size)
  clear hD8 hl8
  obtain ⟨AB, cB, rfl, _, _, _⟩ := HT8.out.best.look
  obtain ⟨y0, y1, y2, y3, y4, y5, y6, y7, dd, lb⟩ := cntS_cells hT8
  simp only at y6
  rw [HR.out.1] at y6
  by_cases hz : waysN p g ab m [] = 0
  · have HG := Lib.hid (giveC_none HC.out hz)
    rw [hz] at y6
    clear hT8 y0 y1 y2 y3 y4 y5 y7 hz
    go_wp2
    go_ret2
    exact RetLT.no2 HG.out.1.symm HG.out.2 HBW.out
  · have HG := Lib.hid (giveC_yes HC.out hz)
    have HF := Lib.hid (HR.out.2 (by omega))
    have hq : (((min (waysN p g ab m []) 20000 : Nat) : Int) == 0) = false := by simp; omega
    clear hT8 y0 y1 y2 y3 y4 y7 hz
    go_wp2
    go_ret2
    exact RetLT.yes2 HG.out.1.symm (by rw [HG.out.2, ← HF.out]; exact HT8.out.best) HB1.out.size HBW.out

end Go.Proofs.YtjidibohbbdboaaDoor
