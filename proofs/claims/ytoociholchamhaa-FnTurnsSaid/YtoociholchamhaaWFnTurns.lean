/- The walk of the law FnTurns: it returns true. -/
import Derived.Test.YtoociholchamhaaR8Legs
import Derived.Test.YtoociholchamhaaR8
import Derived.Test.YtoociholchamhaaTurnsP
import Derived.Test.YtoociholchamhaaFastS
import Derived.Test.YtoociholchamhaaWorst
import Derived.Test.YtoociholchamhaaTurns
import Derived.Test.YtoociholchamhaaRoutes
namespace Go.Proofs.Ytoociholchamhaa
open Go.RowKit

theorem worst_two {pts : Int} {xs : List Leg} {rt : List Int} (h : routeC pts xs rt = 0) : (worstC pts xs rt = 0 ∧ 0 ≤ worstA pts xs rt ∧ worstA pts xs rt + 1 < rt.length ∧ 1 < rt.length) ∨ (worstC pts xs rt = 3 ∧ rt.length = 1) := by
  have hl := onB_len (routeC_zero h).2.1
  by_cases h1 : 1 < rt.length
  · left
    have hw : worstA pts xs rt = (worstTo (riskL xs rt) (rt.length - 1) : Nat) := by unfold worstA; rw [if_pos ⟨h, h1⟩]
    have := worstTo_lt (riskL xs rt) (rt.length - 1) (by omega)
    refine ⟨by unfold worstC; rw [if_pos h, if_pos h1], by omega, by omega, h1⟩
  · right
    exact ⟨by unfold worstC; rw [if_pos h, if_neg h1], by omega⟩
set_option maxRecDepth 100000 in
set_option maxHeartbeats 1000000 in
theorem walk_FnTurns (A0 : Option Addr) (n0 c0 : Nat) (x0 : List Int) (A1 : Option Addr) (n1 c1 : Nat) (x1 : List Int) (w : World) (s0 : SliceOf w 1 u8cells A0 n0 x0) (g0 : ∀ x ∈ x0, 0 ≤ x ∧ x ≤ 255) (s1 : SliceOf w 1 u8cells A1 n1 x1) (g1 : ∀ x ∈ x1, 0 ≤ x ∧ x ≤ 255) :
    Calls Try.prog 10 #[.slice A0 n0 c0, .slice A1 n1 c1] w (Ret (.bool true) w) := by
  have S0 := Lib.hid s0
  have S1 := Lib.hid s1
  have G0 := Lib.hid g0
  have G1 := Lib.hid g1
  have hn0 := s0.le
  have hn1 := s1.le
  clear s0 s1 g0 g1
  cases hlong : (decide (1048576 < n0) || decide (1048576 < n1))
  rotate_left
  · go_enter Try.func10, Try.ntmps10
    go_wp2_with (go_at_call 34; refine (r8Long_any A0 A1 n0 c0 n1 c1 _ hn0 hn1).mono ?_; rintro e w' ⟨rfl, rfl⟩; rw [hlong])
    go_ret
    exact Ret.b rfl (Below.refl _ _)
  go_enter Try.func10, Try.ntmps10
  go_wp2_with fail
  refine (r8Long_any A0 A1 n0 c0 n1 c1 _ hn0 hn1).mono ?_
  rintro e w' ⟨rfl, rfl⟩
  rw [hlong]
  clear hlong
  go_wp2_with fail
  refine (r8Legs_any A0 n0 c0 x0 w S0.out G0.out).mono ?_
  rintro e w1 ⟨p, AL, nl, cl, L, rfl, hp2, hp6, hv, hsl, hb1⟩
  have HV := Lib.hid hv
  have HL1 := Lib.hid hsl
  have HB1 := Lib.hid hb1
  have HS1 := Lib.hid (S1.out.below hb1)
  clear hv hsl hb1
  go_wp2_with fail
  refine (r8At_any A1 n1 c1 x1 0 p w1 HS1.out G1.out (by omega) (by omega) (by omega)).mono ?_
  rintro e w' ⟨a, rfl, ha, rfl⟩
  go_wp2_with fail
  refine (r8At_any A1 n1 c1 x1 1 p w1 HS1.out G1.out (by omega) (by omega) (by omega)).mono ?_
  rintro e w' ⟨b, rfl, hb, rfl⟩
  go_wp2_with fail
  refine (specFastest_any (p : Int) (a : Int) (b : Int) AL nl cl L w1 HL1.out).mono ?_
  rintro e w2 ⟨v, rfl, hown, hb2⟩
  have HB2 := Lib.hid (HB1.out.trans (hb2.mono HB1.out.size))
  have HS2 := Lib.hid (HS1.out.below hb2)
  have HL2 := Lib.hid (HL1.out.below hb2)
  by_cases hc : fastC (p : Int) L (a : Int) (b : Int) = 0
  rotate_left
  · have hne : (fastC (p : Int) L (a : Int) (b : Int) != 0) = true := by simp [hc]
    clear hc hown hb2
    go_wp2
    go_ret
    exact Ret.b rfl HB2.out
  have HR := Lib.hid (fast_route hc)
  obtain ⟨rt, hrt⟩ : ∃ rt, fastR (p : Int) L (a : Int) (b : Int) = rt := ⟨_, rfl⟩
  rw [hrt] at hown HR
  obtain ⟨m, hm⟩ : ∃ m, rt.length = m := ⟨_, rfl⟩
  have hlen := onB_len (routeC_zero HR.out).2.1
  obtain ⟨RB, rc, rfl, hrb, hrb2⟩ := hown.block (by intro h; rw [h] at hlen; simp at hlen)
  have hrc : m ≤ rc := by
    obtain ⟨A', c', e, hc', _, _⟩ := hown.slice i64cells_len
    injection e with _ _ e3
    rw [hm] at hc'; omega
  rw [hm] at hown hlen ⊢
  have HRT2 := Lib.hid (hown.sl i64cells_len)
  have HM := Lib.hid hm
  obtain ⟨hm1, hm64⟩ := hlen
  rw [hc]
  clear hown hb2 hc hrt hm hrb hrb2
  go_wp2_with fail
  refine (r8At_any A1 n1 c1 x1 2 60 w2 HS2.out G1.out (by omega) (by omega) (by omega)).mono ?_
  rintro e w' ⟨dq, rfl, hdq, rfl⟩
  obtain ⟨d, hd⟩ : ∃ d : Int, 10 * (dq : Int) = d := ⟨_, rfl⟩
  have hd0 : 0 ≤ d ∧ d ≤ 600 := by omega
  obtain ⟨hd0, hd1⟩ := hd0
  have HTC : Hid (turnC (p : Int) L rt d = 0) := by
    rw [Hid]; unfold turnC
    rw [if_neg (by intro h; have := h.2; rw [show inB d 0 10000 = true from inB_iff.2 ⟨by omega, by omega⟩] at this; cases this)]
    exact HR.out
  have HTR : Hid (turnR (p : Int) L rt d = turnL L rt d rt.length) := by rw [Hid]; unfold turnR; rw [if_pos HTC.out]
  go_wp2_with fail
  refine (implTurnTimes_any (p : Int) d AL nl cl L _ m rc rt w2 HL2.out HRT2.out).mono ?_
  rintro e w3 ⟨vt, rfl, hot, hb3⟩
  rw [HTC.out]
  rw [HTR.out] at hot
  obtain ⟨TL, hTL⟩ : ∃ TL, turnL L rt d rt.length = TL := ⟨_, rfl⟩
  have hTLl : TL.length = m := by rw [← hTL, turnL_len, HM.out]
  rw [hTL] at hot
  obtain ⟨TB, tc, rfl, htb, htb2⟩ := hot.block (by intro h; rw [h] at hTLl; simp at hTLl; omega)
  rw [hTLl] at hot ⊢
  have HT3 := Lib.hid (hot.sl i64cells_len)
  have HTL := Lib.hid hTL
  have HB3 := Lib.hid (HB2.out.trans (hb3.mono HB2.out.size))
  have HL3 := Lib.hid (HL2.out.below hb3)
  have HRT3 := Lib.hid (HRT2.out.below hb3)
  have HS3 := Lib.hid (HS2.out.below hb3)
  clear hot hb3 htb htb2 hTL hTLl hd
  go_wp2_with fail
  refine (implWorstLeg_any (p : Int) AL nl cl L _ m rc rt w3 HL3.out HRT3.out).mono ?_
  rintro e w4 ⟨rfl, hb4⟩
  obtain ⟨W, hW⟩ : ∃ W, worstA (p : Int) L rt = W := ⟨_, rfl⟩
  obtain ⟨M, hM⟩ : ∃ M, worstM (p : Int) L rt = M := ⟨_, rfl⟩
  obtain ⟨C, hC⟩ : ∃ C, worstC (p : Int) L rt = C := ⟨_, rfl⟩
  have hcs := worst_two HR.out
  rw [hW, hC, HM.out] at hcs
  rw [hW, hM, hC]
  have HWH := Lib.hid hW
  have HMH := Lib.hid hM
  have HB4 := Lib.hid (HB3.out.trans (hb4.mono HB3.out.size))
  have HL4 := Lib.hid (HL3.out.below hb4)
  have HRT4 := Lib.hid (HRT3.out.below hb4)
  have HT4 := Lib.hid (HT3.out.below hb4)
  have HS4 := Lib.hid (HS3.out.below hb4)
  clear hb4 hW hM hC
  obtain ⟨_, _, t00, hA0, htb4, ht00, tcell⟩ := ints_at HT4.out (show 0 < m by omega)
  injection hA0 with hA0
  injection hA0 with e1 e2 _
  subst e1 e2
  have ht0d : t00 = d := by
    have h := turnL_at L rt d (n := rt.length) (k := 0) (by rw [HM.out]; omega)
    rw [HTL.out, ht00] at h
    injection h with h
    rw [h]; simp [sumBy]
  subst ht0d
  rcases hcs with ⟨hC, hW0, hW1, hmm⟩ | ⟨hC, hmm⟩
  rotate_left
  · subst hC
    subst hmm
    go_wp2_with fail
    refine (r8At_any A1 n1 c1 x1 3 100 w4 HS4.out G1.out (by omega) (by omega) (by omega)).mono ?_
    rintro e w' ⟨mq, rfl, hmq, rfl⟩
    go_wp2
    refine wp_loop_rounds 1 ?_
    rw [rounds_succ]
    go_wp2
    go_ret
    exact Ret.b rfl HB4.out
  subst hC
  have hdm : decide ((1 : Int) < (m : Int)) = true := decide_eq_true (by omega)
  go_wp2_with fail
  refine (r8At_any A1 n1 c1 x1 3 100 w4 HS4.out G1.out (by omega) (by omega) (by omega)).mono ?_
  rintro e w' ⟨mq, rfl, hmq, rfl⟩
  obtain ⟨mi, hmi⟩ : ∃ mi : Int, 5 * (mq : Int) = mi := ⟨_, rfl⟩
  have hmi0 : 0 ≤ mi ∧ mi ≤ 1000 := by omega
  obtain ⟨hmi0, hmi1⟩ := hmi0
  have hdW : decide (0 ≤ W) = true := decide_eq_true hW0
  have hdW1 : decide (W + 1 < (m : Int)) = true := decide_eq_true hW1
  go_wp2
  clear hmi hdm
  go_loopg [19] m (fun gk s19 wr => ∃ k : Nat, k + 1 ≤ m ∧ gk = m - k ∧ s19 = .int .i64 k ∧ Below w4.heap.size w4 wr)
  case atStart => exact ⟨0, by omega, rfl, rfl, Below.refl _ _⟩
  case round =>
    obtain ⟨k, hk, hgk, rfl, hb⟩ := hrel
    have Hgk := Lib.hid hgk
    have HB := Lib.hid hb
    have HBW := Lib.hid (HB4.out.trans (hb.mono HB4.out.size))
    clear hgk hb
    by_cases hlt : k + 1 < m
    rotate_left
    · have hkm : ¬ ((k : Int) + 1 < (m : Int)) := by omega
      go_wp2
      go_ret
      exact Ret.b rfl HBW.out
    obtain ⟨x, y, mn, ex, S, hst⟩ := stepF_of (d := t00) HR.out (show k + 1 < rt.length by rw [HM.out]; exact hlt)
    have HST := Lib.hid hst
    obtain ⟨hmn0, hmn1, hS0, hS1⟩ := hst.bd
    clear hst
    have hkm : (k : Int) + 1 < (m : Int) := by omega
    have hrl := Nat.lt_of_lt_of_le (show RB < w4.heap.size from by obtain ⟨b', o', y', hA', hb', _, _⟩ := ints_at HRT4.out (show 0 < m by omega); injection hA' with hA'; injection hA' with e1 _ _; rw [e1]; exact hb') HB.out.size
    have rx : wr.cell? ⟨RB, 0 + k, none⟩ = some (.int .i64 x) := by
      obtain ⟨b', o', y', hA', _, hy', hc'⟩ := ints_at (HRT4.out.below HB.out) (show k < m by omega)
      injection hA' with hA'
      injection hA' with e1 e2 _
      subst e1 e2
      rw [HST.out.hx] at hy'
      injection hy' with hy'
      rw [hy']; exact hc'
    have ry : wr.cell? ⟨RB, 0 + (k + 1), none⟩ = some (.int .i64 y) := by
      obtain ⟨b', o', y', hA', _, hy', hc'⟩ := ints_at (HRT4.out.below HB.out) hlt
      injection hA' with hA'
      injection hA' with e1 e2 _
      subst e1 e2
      rw [HST.out.hy] at hy'
      injection hy' with hy'
      rw [hy']; exact hc'
    simp only [Nat.zero_add] at rx ry
    have e1 : IntKind.i64.wrap ((k : Int) + 1) = (k : Int) + 1 := IntWalk.i64_in _ (by omega)
    have e2 : (0 : Int) ≤ (k : Int) + 1 := by omega
    have e3 : ((k : Int) + 1).toNat = k + 1 := by omega
    have hsub := fun (g : Sub wr) b o (h : b < wr.heap.size) => g.cell b o h
    go_wp2_with fail
    refine wp_region_sub_tail 9 (by kernel_rfl) (by kernel_rfl) ?_
    simp only [List.take_succ_cons, List.take_zero, List.drop_succ_cons, List.drop_zero]
    repeat (go_big_quiet_step (fail))
    refine wpQuiet_nil ?_
    intro wg hg
    have HBg := Lib.hid (HB.out.trans (hg.mono HB.out.size))
    clear rx ry hsub hg hrl
    go_wp2_with fail
    obtain ⟨wy, hwy⟩ : ∃ wy, wg.alloc (.cells #[.int .i64 x, .int .i64 y] 2) = wy := ⟨_, rfl⟩
    have hby : Below wg.heap.size wg wy := by rw [← hwy]; exact (Below.refl _ _).alloc (Nat.le_refl _) _
    have hsy : SliceOf wy 1 i64cells (some ⟨wg.heap.size, 0, none⟩) 2 [x, y] := by rw [← hwy]; exact sliceOf_new wg 2 [x, y] (by simp)
    rw [hwy]
    obtain ⟨Y, hY⟩ : ∃ Y, wg.heap.size = Y := ⟨_, rfl⟩
    rw [hY] at hsy ⊢
    have HBY := Lib.hid (HBg.out.trans (hby.mono HBg.out.size))
    have HSY := Lib.hid hsy
    clear hwy hby hsy hY e1 e2 e3
    (with_reducible refine (specRouteMinutes_any (p : Int) AL nl cl L _ 2 2 [x, y] wy (HL4.out.below HBY.out) HSY.out).mono ?_)
    rintro e w5 ⟨rfl, hb5⟩
    have HB5 := Lib.hid (HBY.out.trans (hb5.mono HBY.out.size))
    have HSY5 := Lib.hid (HSY.out.below hb5)
    rw [HST.out.way, HST.out.wayM]
    clear hb5
    go_wp2_with fail
    (with_reducible refine (specRouteExposure_any (p : Int) AL nl cl L _ 2 2 [x, y] w5 (HL4.out.below HB5.out) HSY5.out).mono ?_)
    rintro e w6 ⟨rfl, hb6⟩
    have HB6 := Lib.hid (HB5.out.trans (hb6.mono HB5.out.size))
    rw [HST.out.way, HST.out.wayE]
    clear hb6
    have f1 : (k : Int) + 2 ≤ (rc : Int) := by omega
    have f2 : ((k : Int) + 2).toNat = k + 2 := by omega
    go_wp2_with fail
    (with_reducible refine (specRouteMinutes_any (p : Int) AL nl cl L _ (k + 2) rc (rt.take (k + 2)) w6 (HL4.out.below HB6.out) ((HRT4.out.below HB6.out).take_ (by omega))).mono ?_)
    rintro e w7 ⟨rfl, hb7⟩
    have HB7 := Lib.hid (HB6.out.trans (hb7.mono HB6.out.size))
    rw [HST.out.back, HST.out.backM]
    clear hb7 f1 f2
    have HMAY : Hid (mayB (p : Int) L rt (k : Int) mi t00 = decide (mi + mn ≤ t00 - (S + mn))) := by
      have h := mayB_yes (k := k) HTC.out (inB_iff.2 ⟨by omega, by rw [HM.out]; omega⟩) (inB_iff.2 ⟨hmi0, by omega⟩) HST.out.hx HST.out.hy
      have h1 := turnL_at L rt t00 (n := rt.length) (k := k + 1) (by rw [HM.out]; exact hlt)
      rw [HST.out.t1] at h1
      injection h1 with h1
      have h2 := congrArg Leg.minutes HST.out.leg
      simp only at h2
      rw [Hid, h, h2, ← h1]
    obtain ⟨BK, hBK⟩ : ∃ BK, S + mn = BK := ⟨_, rfl⟩
    obtain ⟨T0, hT0⟩ : ∃ T0, t00 - S = T0 := ⟨_, rfl⟩
    obtain ⟨T1, hT1⟩ : ∃ T1, t00 - BK = T1 := ⟨_, rfl⟩
    have HT0 := HST.out.t0
    have HT1 := HST.out.t1
    rw [HTL.out, hT0] at HT0
    rw [HTL.out, hBK, hT1] at HT1
    have htlt := Nat.lt_of_lt_of_le htb4 HB7.out.size
    have tx : w7.cell? ⟨TB, 0 + k, none⟩ = some (.int .i64 T0) := by
      obtain ⟨b', o', y', hA', _, hy', hc'⟩ := ints_at (HT4.out.below HB7.out) (show k < m by omega)
      injection hA' with hA'
      injection hA' with e1 e2 _
      subst e1 e2
      rw [HT0] at hy'
      injection hy' with hy'
      rw [hy']; exact hc'
    have ty : w7.cell? ⟨TB, 0 + (k + 1), none⟩ = some (.int .i64 T1) := by
      obtain ⟨b', o', y', hA', _, hy', hc'⟩ := ints_at (HT4.out.below HB7.out) hlt
      injection hA' with hA'
      injection hA' with e1 e2 _
      subst e1 e2
      rw [HT1] at hy'
      injection hy' with hy'
      rw [hy']; exact hc'
    simp only [Nat.zero_add] at tx ty
    rw [hBK] at HMAY ⊢
    have HBQ : Hid (BK ≤ 39000 ∧ 0 ≤ BK) := by rw [Hid]; omega
    have e1 : IntKind.i64.wrap ((k : Int) + 1) = (k : Int) + 1 := IntWalk.i64_in _ (by omega)
    have e2 : (0 : Int) ≤ (k : Int) + 1 := by omega
    have e3 : ((k : Int) + 1).toNat = k + 1 := by omega
    have hw1 : IntKind.i64.wrap (T0 - mn) = T1 := by rw [show T0 - mn = T1 by omega]; exact IntWalk.i64_in _ (by omega)
    have hmost : decide (M < ex) = false := decide_eq_false (by have := HST.out.most; rw [HMH.out] at this; omega)
    have hs1 : IntKind.i64.wrap (mi + mn) = mi + mn := IntWalk.i64_in _ (by omega)
    have hs2 : IntKind.i64.wrap (mi + mn + BK) = mi + mn + BK := IntWalk.i64_in _ (by omega)
    have HEX : Hid ((k : Int) = W → (ex != M) = false) := fun h => by
      have := HST.out.worst (by rw [HWH.out]; exact h.symm)
      rw [HMH.out] at this
      simp [this]
    have HKI : Hid (I64 (k : Int)) := ⟨by omega, by omega⟩
    have hsub := fun (g : Sub w7) b o (h : b < w7.heap.size) => g.cell b o h
    have hB : (decide (mi + mn ≤ t00 - BK) = true ∧ decide (mi + mn + BK ≤ t00) = true) ∨ (decide (mi + mn ≤ t00 - BK) = false ∧ decide (mi + mn + BK ≤ t00) = false) := by
      by_cases h : mi + mn ≤ t00 - BK
      · exact .inl ⟨decide_eq_true h, decide_eq_true (by omega)⟩
      · exact .inr ⟨decide_eq_false h, decide_eq_false (by omega)⟩
    clear hBK hT0 hT1 HT0 HT1
    rcases hB with ⟨hB1, hB2⟩ | ⟨hB1, hB2⟩
    all_goals
      rw [hB1] at HMAY
      clear hB1
      by_cases hkw : (k : Int) = W
      · have hex := HEX.out hkw
        have hq : ((k : Int) == W) = true := by simp [hkw]
        clear hkw
        go_wp2_with fail
        refine wp_region_sub (by kernel_rfl) (by kernel_rfl) ?_
        repeat (go_big_quiet_step (exact Calls.sub_of_eq (implMayGoOn_any (p : Int) (k : Int) mi t00 AL nl cl L _ m rc rt _ ((HL4.out.below HB7.out).below (Sub.below _)) ((HRT4.out.below HB7.out).below (Sub.below _)) HKI.out) (congrArg Value.bool HMAY.out)))
        refine wpQuiet_nil ?_
        intro wg hg
        have HBg7 := Lib.hid (HB7.out.trans (hg.mono HB7.out.size))
        clear hsub hg hex hq tx ty htlt hmost hs1 hs2 hw1 e1 e2 e3 hB2
        go_wp2
        go_roundg (m - (k + 1))
        case measure => have := Hgk.out; omega
        case rel => exact ⟨k + 1, by omega, rfl, by go_num, HBg7.out⟩
      · have hq : ((k : Int) == W) = false := by simp [hkw]
        clear hkw
        go_wp2_with fail
        refine wp_region_sub (by kernel_rfl) (by kernel_rfl) ?_
        repeat (go_big_quiet_step (exact Calls.sub_of_eq (implMayGoOn_any (p : Int) (k : Int) mi t00 AL nl cl L _ m rc rt _ ((HL4.out.below HB7.out).below (Sub.below _)) ((HRT4.out.below HB7.out).below (Sub.below _)) HKI.out) (congrArg Value.bool HMAY.out)))
        refine wpQuiet_nil ?_
        intro wg hg
        have HBg7 := Lib.hid (HB7.out.trans (hg.mono HB7.out.size))
        clear hsub hg hq tx ty htlt hmost hs1 hs2 hw1 e1 e2 e3 hB2
        go_wp2
        go_roundg (m - (k + 1))
        case measure => have := Hgk.out; omega
        case rel => exact ⟨k + 1, by omega, rfl, by go_num, HBg7.out⟩

end Go.Proofs.Ytoociholchamhaa
