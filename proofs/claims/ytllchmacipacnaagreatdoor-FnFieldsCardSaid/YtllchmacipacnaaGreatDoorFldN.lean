/- The cell to which snow is blown, on both sides; masses within their bounds, and when a field is valid. -/
import Derived.Test.YtllchmacipacnaaGreatDoorFldP
import Derived.Test.YtllchmacipacnaaGreatDoorWithin
import Derived.Deep.RegionHeld3
import Derived.Deep.RegionLaw
import Derived.BigQuiet
namespace Go.Proofs.YtllchmacipacnaaGreatDoor
open Go.RowKit

theorem next_split {R C k : Nat} (hC : 1 ≤ C) (hk : k < R * C) : ∃ r0 c0 : Nat, (k : Int).tdiv (C : Int) = (r0 : Int) ∧ (k : Int).tmod (C : Int) = (c0 : Int) ∧ r0 < R ∧ c0 < C ∧ k / C = r0 ∧ k % C = c0 := by
  refine ⟨k / C, k % C, ?_, ?_, ?_, Nat.mod_lt _ (by omega), rfl, rfl⟩
  · rw [Int.tdiv_eq_ediv_of_nonneg (by omega), Int.natCast_ediv]
  · rw [Int.tmod_eq_emod_of_nonneg (by omega), Int.natCast_emod]
  · exact Nat.div_lt_of_lt_mul (by rw [Nat.mul_comm]; exact hk)
theorem prod_in {r c : Int} (hr : 0 ≤ r ∧ r ≤ 8) (hc : 1 ≤ c ∧ c ≤ 8) : 0 ≤ r * c ∧ r * c ≤ 64 := by
  have h1 := Int.mul_nonneg hr.1 (by omega : 0 ≤ c)
  have h2 := Int.mul_le_mul hr.2 hc.2 (by omega) (by omega)
  omega
theorem nextF_yes {R C k r0 c0 : Nat} {d r c : Int} (h1 : k / C = r0) (h2 : k % C = c0) (hr : rowD d (r0 : Int) = r) (hc : colD d (c0 : Int) = c) (h : 0 ≤ r ∧ r < R ∧ 0 ≤ c ∧ c < C) : nextF R C k d = r * C + c := by
  unfold nextF; rw [h1, h2, hr, hc, if_pos h]
theorem nextF_no {R C k r0 c0 : Nat} {d r c : Int} (h1 : k / C = r0) (h2 : k % C = c0) (hr : rowD d (r0 : Int) = r) (hc : colD d (c0 : Int) = c) (h : ¬ (0 ≤ r ∧ r < R ∧ 0 ≤ c ∧ c < C)) : nextF R C k d = -1 := by
  unfold nextF; rw [h1, h2, hr, hc, if_neg h]
set_option maxHeartbeats 1000000 in
theorem l06Next_any (X R C k : Nat) (d : Int) (w : World) (y0 : w.cell? ⟨X, 0, none⟩ = some (.int .i64 (R : Int))) (y1 : w.cell? ⟨X, 1, none⟩ = some (.int .i64 (C : Int))) (hR : 1 ≤ R) (hR8 : R ≤ 8) (hC : 1 ≤ C) (hC8 : C ≤ 8) (hk : k < R * C) (hd : 0 ≤ d ∧ d ≤ 3) :
    Calls Tryz.prog 62 #[.pointer (some ⟨X, 0, none⟩), .int .i64 k, .int .i64 d] w (RetS (.int .i64 (nextF R C k d)) w) := by
  obtain ⟨r0, c0, e1, e2, hr0, hc0, hq1, hq2⟩ := next_split hC hk
  have HQ1 := Lib.hid hq1
  have HQ2 := Lib.hid hq2
  have w1 : IntKind.i64.wrap (r0 : Int) = r0 := IntWalk.i64_in _ (by omega)
  have w2 : IntKind.i64.wrap (c0 : Int) = c0 := IntWalk.i64_in _ (by omega)
  clear hq1 hq2 hk
  have hd4 : d = 0 ∨ d = 1 ∨ d = 2 ∨ d = 3 := by omega
  rcases hd4 with rfl | rfl | rfl | rfl
  · have hr1 : ((r0 : Int) < 0) = False := by simp
    have hr2 : ((c0 : Int) < 0) = False := by simp
    by_cases h : r0 + 1 < R
    · have HF := Lib.hid (nextF_yes (R := R) (d := 0) HQ1.out HQ2.out (r := (r0 : Int) + 1) (c := (c0 : Int)) rfl rfl (by omega))
      have hp := prod_in (r := (r0 : Int) + 1) (c := (C : Int)) (by omega) (by omega)
      have g0 : decide ((r0 : Int) + 1 < 0) = false := decide_eq_false (by omega)
      have g1 : decide ((R : Int) ≤ (r0 : Int) + 1) = false := decide_eq_false (by omega)
      have g3 : decide (C ≤ c0) = false := decide_eq_false (by omega)
      go_enter Tryz.func62, Tryz.ntmps62
      go_wp2
      go_ret
      exact RetS.i HF.out.symm
    · have HF := Lib.hid (nextF_no (R := R) (d := 0) HQ1.out HQ2.out (r := (r0 : Int) + 1) (c := (c0 : Int)) rfl rfl (by omega))
      have g0 : decide ((r0 : Int) + 1 < 0) = false := decide_eq_false (by omega)
      have g1 : decide ((R : Int) ≤ (r0 : Int) + 1) = true := decide_eq_true (by omega)
      have g3 : decide (C ≤ c0) = false := decide_eq_false (by omega)
      go_enter Tryz.func62, Tryz.ntmps62
      go_wp2
      go_ret
      exact RetS.i HF.out.symm
  · have hr1 : ((r0 : Int) < 0) = False := by simp
    have hr2 : ((c0 : Int) < 0) = False := by simp
    by_cases h : 1 ≤ c0
    · have HF := Lib.hid (nextF_yes (R := R) (d := 1) HQ1.out HQ2.out (r := (r0 : Int)) (c := (c0 : Int) - 1) rfl rfl (by omega))
      have hp := prod_in (r := (r0 : Int)) (c := (C : Int)) (by omega) (by omega)
      have g1 : decide (R ≤ r0) = false := decide_eq_false (by omega)
      have g2 : decide ((c0 : Int) - 1 < 0) = false := decide_eq_false (by omega)
      have g3 : decide ((C : Int) ≤ (c0 : Int) - 1) = false := decide_eq_false (by omega)
      go_enter Tryz.func62, Tryz.ntmps62
      go_wp2
      go_ret
      exact RetS.i HF.out.symm
    · have HF := Lib.hid (nextF_no (R := R) (d := 1) HQ1.out HQ2.out (r := (r0 : Int)) (c := (c0 : Int) - 1) rfl rfl (by omega))
      have g1 : decide (R ≤ r0) = false := decide_eq_false (by omega)
      have g2 : decide ((c0 : Int) - 1 < 0) = true := decide_eq_true (by omega)
      have g3 : decide ((C : Int) ≤ (c0 : Int) - 1) = false := decide_eq_false (by omega)
      go_enter Tryz.func62, Tryz.ntmps62
      go_wp2
      go_ret
      exact RetS.i HF.out.symm
  · have hr1 : ((r0 : Int) < 0) = False := by simp
    have hr2 : ((c0 : Int) < 0) = False := by simp
    by_cases h : 1 ≤ r0
    · have HF := Lib.hid (nextF_yes (R := R) (d := 2) HQ1.out HQ2.out (r := (r0 : Int) - 1) (c := (c0 : Int)) rfl rfl (by omega))
      have hp := prod_in (r := (r0 : Int) - 1) (c := (C : Int)) (by omega) (by omega)
      have g0 : decide ((r0 : Int) - 1 < 0) = false := decide_eq_false (by omega)
      have g1 : decide ((R : Int) ≤ (r0 : Int) - 1) = false := decide_eq_false (by omega)
      have g3 : decide (C ≤ c0) = false := decide_eq_false (by omega)
      go_enter Tryz.func62, Tryz.ntmps62
      go_wp2
      go_ret
      exact RetS.i HF.out.symm
    · have HF := Lib.hid (nextF_no (R := R) (d := 2) HQ1.out HQ2.out (r := (r0 : Int) - 1) (c := (c0 : Int)) rfl rfl (by omega))
      have g0 : decide ((r0 : Int) - 1 < 0) = true := decide_eq_true (by omega)
      have g1 : decide ((R : Int) ≤ (r0 : Int) - 1) = false := decide_eq_false (by omega)
      have g3 : decide (C ≤ c0) = false := decide_eq_false (by omega)
      go_enter Tryz.func62, Tryz.ntmps62
      go_wp2
      go_ret
      exact RetS.i HF.out.symm
  · have hr1 : ((r0 : Int) < 0) = False := by simp
    have hr2 : ((c0 : Int) < 0) = False := by simp
    by_cases h : c0 + 1 < C
    · have HF := Lib.hid (nextF_yes (R := R) (d := 3) HQ1.out HQ2.out (r := (r0 : Int)) (c := (c0 : Int) + 1) rfl rfl (by omega))
      have hp := prod_in (r := (r0 : Int)) (c := (C : Int)) (by omega) (by omega)
      have g1 : decide (R ≤ r0) = false := decide_eq_false (by omega)
      have g2 : decide ((c0 : Int) + 1 < 0) = false := decide_eq_false (by omega)
      have g3 : decide ((C : Int) ≤ (c0 : Int) + 1) = false := decide_eq_false (by omega)
      go_enter Tryz.func62, Tryz.ntmps62
      go_wp2
      go_ret
      exact RetS.i HF.out.symm
    · have HF := Lib.hid (nextF_no (R := R) (d := 3) HQ1.out HQ2.out (r := (r0 : Int)) (c := (c0 : Int) + 1) rfl rfl (by omega))
      have g1 : decide (R ≤ r0) = false := decide_eq_false (by omega)
      have g2 : decide ((c0 : Int) + 1 < 0) = false := decide_eq_false (by omega)
      have g3 : decide ((C : Int) ≤ (c0 : Int) + 1) = true := decide_eq_true (by omega)
      go_enter Tryz.func62, Tryz.ntmps62
      go_wp2
      go_ret
      exact RetS.i HF.out.symm
set_option maxHeartbeats 1000000 in
theorem lee_any (f : FieldR) (R C k : Nat) (d : Int) (w : World) (hfr : f.rows = (R : Int)) (hfc : f.columns = (C : Int)) (hR : 1 ≤ R) (hR8 : R ≤ 8) (hC : 1 ≤ C) (hC8 : C ≤ 8) (hk : k < R * C) (hd : 0 ≤ d ∧ d ≤ 3) :
    Calls Tryz.prog 58 #[.agg #[.int .i64 f.rows, .int .i64 f.columns, .slice f.massesA f.massesN f.massesC], .int .i64 k, .int .i64 d] w (Ret (.int .i64 (nextF R C k d)) w) := by
  rw [hfr, hfc]
  obtain ⟨r0, c0, e1, e2, hr0, hc0, hq1, hq2⟩ := next_split hC hk
  have HQ1 := Lib.hid hq1
  have HQ2 := Lib.hid hq2
  have w1 : IntKind.i64.wrap (r0 : Int) = r0 := IntWalk.i64_in _ (by omega)
  have w2 : IntKind.i64.wrap (c0 : Int) = c0 := IntWalk.i64_in _ (by omega)
  have HB : Hid (Below w.heap.size w (w.alloc (.cells #[.int .i64 R, .int .i64 C, .slice f.massesA f.massesN f.massesC] 26))) := (Below.refl _ _).alloc (Nat.le_refl _) _
  have HO : Hid (Own (w.alloc (.cells #[.int .i64 R, .int .i64 C, .slice f.massesA f.massesN f.massesC] 26)) w.heap.size 26 #[.int .i64 R, .int .i64 C, .slice f.massesA f.massesN f.massesC]) := Own.new _ _ _
  clear hq1 hq2 hk
  have hd4 : d = 0 ∨ d = 1 ∨ d = 2 ∨ d = 3 := by omega
  rcases hd4 with rfl | rfl | rfl | rfl
  · have hr1 : ((r0 : Int) < 0) = False := by simp
    have hr2 : ((c0 : Int) < 0) = False := by simp
    by_cases h : r0 + 1 < R
    · have HF := Lib.hid (nextF_yes (R := R) (d := 0) HQ1.out HQ2.out (r := (r0 : Int) + 1) (c := (c0 : Int)) rfl rfl (by omega))
      have hp := prod_in (r := (r0 : Int) + 1) (c := (C : Int)) (by omega) (by omega)
      have g0 : decide ((r0 : Int) + 1 < 0) = false := decide_eq_false (by omega)
      have g1 : decide ((R : Int) ≤ (r0 : Int) + 1) = false := decide_eq_false (by omega)
      have g3 : decide (C ≤ c0) = false := decide_eq_false (by omega)
      have k1 : inB ((r0 : Int) + 1) 0 ((R : Int) - 1) = true := by rw [inB_iff]; omega
      have k2 : inB ((c0 : Int)) 0 ((C : Int) - 1) = true := by rw [inB_iff]; omega
      go_enter Tryz.func58, Tryz.ntmps58
      go_upto_region 1 with fail
      go_quiet (fail)
      go_wp2_with (go_at_call 24; refine (within_any _ _ _ _).mono ?_; rintro e w' ⟨rfl, rfl⟩)
      all_goals (go_ret; exact Ret.i HF.out.symm (below_drewN HB.out _))
    · have HF := Lib.hid (nextF_no (R := R) (d := 0) HQ1.out HQ2.out (r := (r0 : Int) + 1) (c := (c0 : Int)) rfl rfl (by omega))
      have g0 : decide ((r0 : Int) + 1 < 0) = false := decide_eq_false (by omega)
      have g1 : decide ((R : Int) ≤ (r0 : Int) + 1) = true := decide_eq_true (by omega)
      have g3 : decide (C ≤ c0) = false := decide_eq_false (by omega)
      have k1 : inB ((r0 : Int) + 1) 0 ((R : Int) - 1) = false := by rw [Bool.eq_false_iff]; intro e; rw [inB_iff] at e; omega
      have k2 : inB ((c0 : Int)) 0 ((C : Int) - 1) = true := by rw [inB_iff]; omega
      go_enter Tryz.func58, Tryz.ntmps58
      go_upto_region 1 with fail
      go_quiet (fail)
      go_wp2_with (go_at_call 24; refine (within_any _ _ _ _).mono ?_; rintro e w' ⟨rfl, rfl⟩)
      all_goals (go_ret; exact Ret.i HF.out.symm (below_drewN HB.out _))
  · have hr1 : ((r0 : Int) < 0) = False := by simp
    have hr2 : ((c0 : Int) < 0) = False := by simp
    by_cases h : 1 ≤ c0
    · have HF := Lib.hid (nextF_yes (R := R) (d := 1) HQ1.out HQ2.out (r := (r0 : Int)) (c := (c0 : Int) - 1) rfl rfl (by omega))
      have hp := prod_in (r := (r0 : Int)) (c := (C : Int)) (by omega) (by omega)
      have g1 : decide (R ≤ r0) = false := decide_eq_false (by omega)
      have g2 : decide ((c0 : Int) - 1 < 0) = false := decide_eq_false (by omega)
      have g3 : decide ((C : Int) ≤ (c0 : Int) - 1) = false := decide_eq_false (by omega)
      have k1 : inB ((r0 : Int)) 0 ((R : Int) - 1) = true := by rw [inB_iff]; omega
      have k2 : inB ((c0 : Int) - 1) 0 ((C : Int) - 1) = true := by rw [inB_iff]; omega
      go_enter Tryz.func58, Tryz.ntmps58
      go_upto_region 1 with fail
      go_quiet (fail)
      go_wp2_with (go_at_call 24; refine (within_any _ _ _ _).mono ?_; rintro e w' ⟨rfl, rfl⟩)
      all_goals (go_ret; exact Ret.i HF.out.symm (below_drewN HB.out _))
    · have HF := Lib.hid (nextF_no (R := R) (d := 1) HQ1.out HQ2.out (r := (r0 : Int)) (c := (c0 : Int) - 1) rfl rfl (by omega))
      have g1 : decide (R ≤ r0) = false := decide_eq_false (by omega)
      have g2 : decide ((c0 : Int) - 1 < 0) = true := decide_eq_true (by omega)
      have g3 : decide ((C : Int) ≤ (c0 : Int) - 1) = false := decide_eq_false (by omega)
      have k1 : inB ((r0 : Int)) 0 ((R : Int) - 1) = true := by rw [inB_iff]; omega
      have k2 : inB ((c0 : Int) - 1) 0 ((C : Int) - 1) = false := by rw [Bool.eq_false_iff]; intro e; rw [inB_iff] at e; omega
      go_enter Tryz.func58, Tryz.ntmps58
      go_upto_region 1 with fail
      go_quiet (fail)
      go_wp2_with (go_at_call 24; refine (within_any _ _ _ _).mono ?_; rintro e w' ⟨rfl, rfl⟩)
      all_goals (go_ret; exact Ret.i HF.out.symm (below_drewN HB.out _))
  · have hr1 : ((r0 : Int) < 0) = False := by simp
    have hr2 : ((c0 : Int) < 0) = False := by simp
    by_cases h : 1 ≤ r0
    · have HF := Lib.hid (nextF_yes (R := R) (d := 2) HQ1.out HQ2.out (r := (r0 : Int) - 1) (c := (c0 : Int)) rfl rfl (by omega))
      have hp := prod_in (r := (r0 : Int) - 1) (c := (C : Int)) (by omega) (by omega)
      have g0 : decide ((r0 : Int) - 1 < 0) = false := decide_eq_false (by omega)
      have g1 : decide ((R : Int) ≤ (r0 : Int) - 1) = false := decide_eq_false (by omega)
      have g3 : decide (C ≤ c0) = false := decide_eq_false (by omega)
      have k1 : inB ((r0 : Int) - 1) 0 ((R : Int) - 1) = true := by rw [inB_iff]; omega
      have k2 : inB ((c0 : Int)) 0 ((C : Int) - 1) = true := by rw [inB_iff]; omega
      go_enter Tryz.func58, Tryz.ntmps58
      go_upto_region 1 with fail
      go_quiet (fail)
      go_wp2_with (go_at_call 24; refine (within_any _ _ _ _).mono ?_; rintro e w' ⟨rfl, rfl⟩)
      all_goals (go_ret; exact Ret.i HF.out.symm (below_drewN HB.out _))
    · have HF := Lib.hid (nextF_no (R := R) (d := 2) HQ1.out HQ2.out (r := (r0 : Int) - 1) (c := (c0 : Int)) rfl rfl (by omega))
      have g0 : decide ((r0 : Int) - 1 < 0) = true := decide_eq_true (by omega)
      have g1 : decide ((R : Int) ≤ (r0 : Int) - 1) = false := decide_eq_false (by omega)
      have g3 : decide (C ≤ c0) = false := decide_eq_false (by omega)
      have k1 : inB ((r0 : Int) - 1) 0 ((R : Int) - 1) = false := by rw [Bool.eq_false_iff]; intro e; rw [inB_iff] at e; omega
      have k2 : inB ((c0 : Int)) 0 ((C : Int) - 1) = true := by rw [inB_iff]; omega
      go_enter Tryz.func58, Tryz.ntmps58
      go_upto_region 1 with fail
      go_quiet (fail)
      go_wp2_with (go_at_call 24; refine (within_any _ _ _ _).mono ?_; rintro e w' ⟨rfl, rfl⟩)
      all_goals (go_ret; exact Ret.i HF.out.symm (below_drewN HB.out _))
  · have hr1 : ((r0 : Int) < 0) = False := by simp
    have hr2 : ((c0 : Int) < 0) = False := by simp
    by_cases h : c0 + 1 < C
    · have HF := Lib.hid (nextF_yes (R := R) (d := 3) HQ1.out HQ2.out (r := (r0 : Int)) (c := (c0 : Int) + 1) rfl rfl (by omega))
      have hp := prod_in (r := (r0 : Int)) (c := (C : Int)) (by omega) (by omega)
      have g1 : decide (R ≤ r0) = false := decide_eq_false (by omega)
      have g2 : decide ((c0 : Int) + 1 < 0) = false := decide_eq_false (by omega)
      have g3 : decide ((C : Int) ≤ (c0 : Int) + 1) = false := decide_eq_false (by omega)
      have k1 : inB ((r0 : Int)) 0 ((R : Int) - 1) = true := by rw [inB_iff]; omega
      have k2 : inB ((c0 : Int) + 1) 0 ((C : Int) - 1) = true := by rw [inB_iff]; omega
      go_enter Tryz.func58, Tryz.ntmps58
      go_upto_region 1 with fail
      go_quiet (fail)
      go_wp2_with (go_at_call 24; refine (within_any _ _ _ _).mono ?_; rintro e w' ⟨rfl, rfl⟩)
      all_goals (go_ret; exact Ret.i HF.out.symm (below_drewN HB.out _))
    · have HF := Lib.hid (nextF_no (R := R) (d := 3) HQ1.out HQ2.out (r := (r0 : Int)) (c := (c0 : Int) + 1) rfl rfl (by omega))
      have g1 : decide (R ≤ r0) = false := decide_eq_false (by omega)
      have g2 : decide ((c0 : Int) + 1 < 0) = false := decide_eq_false (by omega)
      have g3 : decide ((C : Int) ≤ (c0 : Int) + 1) = true := decide_eq_true (by omega)
      have k1 : inB ((r0 : Int)) 0 ((R : Int) - 1) = true := by rw [inB_iff]; omega
      have k2 : inB ((c0 : Int) + 1) 0 ((C : Int) - 1) = false := by rw [Bool.eq_false_iff]; intro e; rw [inB_iff] at e; omega
      go_enter Tryz.func58, Tryz.ntmps58
      go_upto_region 1 with fail
      go_quiet (fail)
      go_wp2_with (go_at_call 24; refine (within_any _ _ _ _).mono ?_; rintro e w' ⟨rfl, rfl⟩)
      all_goals (go_ret; exact Ret.i HF.out.symm (below_drewN HB.out _))

end Go.Proofs.YtllchmacipacnaaGreatDoor
