/- The walk of the law FnStability: it returns true. -/
import Derived.Test.YtmfghgoboibjdaaStabA
import Derived.Test.YtmfghgoboibjdaaR8
namespace Go.Proofs.Ytmfghgoboibjdaa
open Go.RowKit

theorem sub_profB {L : List Layer} {k : Nat} {x : Layer} (h : profB L = true) (hx : L[k]? = some x) : x.oneB = true := prof_at h hx
set_option maxRecDepth 100000 in
set_option maxHeartbeats 8000000 in
theorem walk_FnStability (A0 : Option Addr) (n0 c0 : Nat) (x0 : List Int) (A1 : Option Addr) (n1 c1 : Nat) (x1 : List Int) (w : World) (s0 : SliceOf w 1 u8cells A0 n0 x0) (g0 : ∀ x ∈ x0, 0 ≤ x ∧ x ≤ 255) (s1 : SliceOf w 1 u8cells A1 n1 x1) (g1 : ∀ x ∈ x1, 0 ≤ x ∧ x ≤ 255) :
    Calls Try.prog 3 #[.slice A0 n0 c0, .slice A1 n1 c1] w (Ret (.bool true) w) := by
  have S0 := Lib.hid s0
  have S1 := Lib.hid s1
  have G0 := Lib.hid g0
  have G1 := Lib.hid g1
  have hn0 := s0.le
  have hn1 := s1.le
  clear s0 s1 g0 g1
  cases hlong : (decide (1048576 < n0) || decide (1048576 < n1))
  rotate_left
  · go_enter Try.func3, Try.ntmps3
    go_wp2_with (go_at_call 4; refine (r8Long_any A0 A1 n0 c0 n1 c1 _ hn0 hn1).mono ?_; rintro e w' ⟨rfl, rfl⟩; rw [hlong])
    go_ret
    exact Ret.b rfl (Below.refl _ _)
  go_enter Try.func3, Try.ntmps3
  go_wp2_with fail
  refine (r8Long_any A0 A1 n0 c0 n1 c1 _ hn0 hn1).mono ?_
  rintro e w' ⟨rfl, rfl⟩
  rw [hlong]
  clear hlong
  go_wp2_with fail
  refine (r8Profile_ok A0 n0 c0 x0 w S0.out G0.out).mono ?_
  rintro e w1 ⟨AL, cl, L, rfl, hcl, hcl2', hv, hsl, hb1⟩
  have hcl2 : cl ≤ 9223372036854775807 := hcl2'
  obtain ⟨m, hm⟩ : ∃ m, L.length = m := ⟨_, rfl⟩
  rw [hm] at hcl hsl ⊢
  have HLM := Lib.hid hm
  have hm16 : m ≤ 16 := by rw [← hm]; exact (profB_iff.1 hv).1
  have HV := Lib.hid hv
  have HL1 := Lib.hid hsl
  have HB1 := Lib.hid hb1
  have HS1 := Lib.hid (S1.out.below hb1)
  clear hv hsl hb1 hm hcl2'
  go_wp2_with fail
  refine (r8At_any A1 n1 c1 x1 0 90 w1 HS1.out G1.out (by omega) (by omega) (by omega)).mono ?_
  rintro e w' ⟨rq, rfl, hrq, rfl⟩
  obtain ⟨r, hrr⟩ : ∃ r : Int, (rq : Int) = r := ⟨_, rfl⟩
  rw [hrr]
  have hr90 : 0 ≤ r ∧ r < 90 := by omega
  clear hrr hrq
  go_wp2_with fail
  refine (r8At_any A1 n1 c1 x1 1 250 w1 HS1.out G1.out (by omega) (by omega) (by omega)).mono ?_
  rintro e w' ⟨dq, rfl, hdq, rfl⟩
  obtain ⟨d, hdd⟩ : ∃ d : Int, 2 * (dq : Int) = d := ⟨_, rfl⟩
  have HDD := Lib.hid hdd
  have hd500 : 0 ≤ d ∧ d < 500 := by omega
  clear hdd
  go_wp2_with fail
  rw [HDD.out]
  clear HDD hdq
  refine (r8At_any A1 n1 c1 x1 2 250 w1 HS1.out G1.out (by omega) (by omega) (by omega)).mono ?_
  rintro e w' ⟨lq, rfl, hlq, rfl⟩
  obtain ⟨lim, hll⟩ : ∃ lim : Int, 500 + 10 * (lq : Int) = lim := ⟨_, rfl⟩
  have HLL := Lib.hid hll
  have hlim : 0 ≤ lim ∧ lim ≤ 1000000 := by omega
  have hr : 0 ≤ r ∧ r ≤ 1000 := by omega
  have hd : 0 ≤ d ∧ d ≤ 1000 := by omega
  clear hll
  go_wp2
  rw [HLL.out]
  clear HLL hlq
  go_loopg [9] m (fun gk s9 wr => ∃ k : Nat, k ≤ m ∧ gk = m - k ∧ s9 = .int .i64 k ∧ Below w1.heap.size w1 wr)
  case atStart => exact ⟨0, Nat.zero_le _, rfl, rfl, Below.refl _ _⟩
  case round =>
    obtain ⟨k, hk, hgk, rfl, hb⟩ := hrel
    have HB := Lib.hid hb
    have Hgk := Lib.hid hgk
    clear hb hgk
    by_cases hlt : k < m
    · obtain ⟨ab, ao, x, rfl, hbl, hxk, y0, y1, y2, y3, y4, y5, y6⟩ := Layer.at_ (HL1.out.below HB.out) hlt
      have HXK := Lib.hid hxk
      have HONE := Lib.hid (prof_at HV.out hxk)
      have HGD := Lib.hid (getD_at hxk)
      clear hxk
      go_wp2_with fail
      refine (strengthBounds_ok x d wr HONE.out hd).mono ?_
      rintro e v1 ⟨rfl, hb1⟩
      have HB1a := Lib.hid (HB.out.trans (hb1.mono HB.out.size))
      clear hb1 y0 y1 y2 y3 y4 y5 y6 hbl
      obtain ⟨ab', ao', x', he, hbl, hxk, y0, y1, y2, y3, y4, y5, y6⟩ := Layer.at_ (HL1.out.below HB1a.out) hlt
      injection he with he
      injection he with e1 e2 _
      subst e1 e2
      rw [HXK.out] at hxk
      injection hxk with hxk
      subst hxk
      go_wp2_with fail
      refine (strengthBounds_ok x (d + 50) v1 HONE.out (by omega)).mono ?_
      rintro e v2 ⟨rfl, hb2⟩
      have HB2a := Lib.hid (HB1a.out.trans (hb2.mono HB1a.out.size))
      clear hb2 y0 y1 y2 y3 y4 y5 y6 hbl
      go_wp2_with fail
      refine (indexBounds_ok ab ao m cl k r 100 d L v2 (HL1.out.below HB2a.out) HV.out hlt hcl hcl2 hr (by omega) hd).mono ?_
      rintro e v3 ⟨rfl, hb3⟩
      have HB3a := Lib.hid (HB2a.out.trans (hb3.mono HB2a.out.size))
      clear hb3
      go_wp2_with fail
      refine (indexBounds_ok ab ao m cl k (r + 5) 100 d L v3 (HL1.out.below HB3a.out) HV.out hlt hcl hcl2 (by omega) (by omega) hd).mono ?_
      rintro e v4 ⟨rfl, hb4⟩
      have HB4a := Lib.hid (HB3a.out.trans (hb4.mono HB3a.out.size))
      clear hb4
      go_wp2_with fail
      refine (stressAt_ok ab ao m cl k r 100 L v4 (HL1.out.below HB4a.out) HV.out hlt hcl hcl2 hr (by omega)).mono ?_
      rintro e v5 ⟨rfl, hb5⟩
      have HB5a := Lib.hid (HB4a.out.trans (hb5.mono HB4a.out.size))
      clear hb5
      go_wp2_with fail
      refine (stressAt_ok ab ao m cl k (r + 5) 100 L v5 (HL1.out.below HB5a.out) HV.out hlt hcl hcl2 (by omega) (by omega)).mono ?_
      rintro e v6 ⟨rfl, hb6⟩
      have HB6a := Lib.hid (HB5a.out.trans (hb6.mono HB5a.out.size))
      clear hb6
      have hld := load_bd HV.out k
      have hl0 := low_bd HONE.out hd.1 hd.2
      have hh0 := high_bd HONE.out hd.1 hd.2
      have q1 := low_high HONE.out hd.1 hd.2
      have q2 := low_less HONE.out (show d ≤ d + 50 by omega)
      have q3 := high_more HONE.out (show d ≤ d + 50 by omega)
      have ss := stress_steep (load := loadN L k) (rise := r) (more := 5) (run := 100) hld.1 hr90.1 (by decide) (by decide) (by omega)
      have s0 := (stress_bd (load := loadN L k) (rise := r) (run := 100) hld.1 (by omega) hr.1 hr.2 (by decide) (by decide)).1
      have i1 : lowAt L 0 r 100 d k ≤ highAt L 0 r 100 d k := by
        unfold lowAt highAt; rw [HGD.out, Int.add_zero]; exact idx_le q1 s0
      have i2 : lowAt L 0 (r + 5) 100 d k ≤ lowAt L 0 r 100 d k := by
        unfold lowAt; rw [HGD.out, Int.add_zero]; exact idxLow_less hl0.2.2.1 s0 ss
      have i3 : highAt L 0 (r + 5) 100 d k ≤ highAt L 0 r 100 d k := by
        unfold highAt; rw [HGD.out, Int.add_zero]; exact idxHigh_less hh0.2.2.1 s0 ss
      have f1 : decide (highN x d < lowN x d) = false := decide_eq_false (by omega)
      have f2 : decide (lowN x d < lowN x (d + 50)) = false := decide_eq_false (by omega)
      have f3 : decide (highN x (d + 50) < highN x d) = false := decide_eq_false (by omega)
      have f4 : decide (highAt L 0 r 100 d k < lowAt L 0 r 100 d k) = false := decide_eq_false (by omega)
      have f5 : decide (lowAt L 0 r 100 d k < lowAt L 0 (r + 5) 100 d k) = false := decide_eq_false (by omega)
      have f6 : decide (highAt L 0 r 100 d k < highAt L 0 (r + 5) 100 d k) = false := decide_eq_false (by omega)
      have f7 : decide (stressN (loadN L k) (r + 5) 100 < stressN (loadN L k) r 100) = false := decide_eq_false (by omega)
      have f8 : decide (stressN (loadN L k) r 100 < 0) = false := decide_eq_false (by omega)
      clear hld hl0 hh0 q1 q2 q3 ss s0 i1 i2 i3
      obtain ⟨a1, ha⟩ : ∃ a, lowN x d = a := ⟨_, rfl⟩
      rw [ha] at f1 f2 ⊢
      clear ha
      obtain ⟨a2, ha⟩ : ∃ a, highN x d = a := ⟨_, rfl⟩
      rw [ha] at f1 f3 ⊢
      clear ha
      obtain ⟨a3, ha⟩ : ∃ a, lowN x (d + 50) = a := ⟨_, rfl⟩
      rw [ha] at f2 ⊢
      clear ha
      obtain ⟨a4, ha⟩ : ∃ a, highN x (d + 50) = a := ⟨_, rfl⟩
      rw [ha] at f3 ⊢
      clear ha
      obtain ⟨b1, ha⟩ : ∃ a, lowAt L 0 r 100 d k = a := ⟨_, rfl⟩
      rw [ha] at f4 f5 ⊢
      clear ha
      obtain ⟨b2, ha⟩ : ∃ a, highAt L 0 r 100 d k = a := ⟨_, rfl⟩
      rw [ha] at f4 f6 ⊢
      clear ha
      obtain ⟨b3, ha⟩ : ∃ a, lowAt L 0 (r + 5) 100 d k = a := ⟨_, rfl⟩
      rw [ha] at f5 ⊢
      clear ha
      obtain ⟨b4, ha⟩ : ∃ a, highAt L 0 (r + 5) 100 d k = a := ⟨_, rfl⟩
      rw [ha] at f6 ⊢
      clear ha
      obtain ⟨c1', ha⟩ : ∃ a, stressN (loadN L k) r 100 = a := ⟨_, rfl⟩
      rw [ha] at f7 f8 ⊢
      clear ha
      obtain ⟨c2', ha⟩ : ∃ a, stressN (loadN L k) (r + 5) 100 = a := ⟨_, rfl⟩
      rw [ha] at f7 ⊢
      clear ha
      go_wp2
      go_roundg (m - (k + 1))
      case measure => have := Hgk.out; omega
      case rel => exact ⟨k + 1, by omega, rfl, by go_num, HB6a.out⟩
    have hkm : k = m := by omega
    subst hkm
    have HLr := Lib.hid (HL1.out.below HB.out)
    have HBr := Lib.hid (HB1.out.trans (HB.out.mono HB1.out.size))
    clear hk Hgk hlt
    go_wp2_with fail
    refine (weakestLayer_ok AL k cl r 100 d L wr HLr.out HV.out hcl hcl2 hr (by omega) hd).mono ?_
    rintro e w2 ⟨q, l, acd, rfl, hq, hb2⟩
    have HL2 := Lib.hid (HLr.out.below hb2)
    have HB2 := Lib.hid (HBr.out.trans (hb2.mono HBr.out.size))
    clear hb2
    go_wp2_with fail
    refine (slabOf_ok AL k cl r 100 d L w2 HL2.out HV.out hcl hcl2 hr (by omega) hd).mono ?_
    rintro e w3 ⟨sh, bcd, rfl, hsh, hb3⟩
    have HL3 := Lib.hid (HL2.out.below hb3)
    have HB3 := Lib.hid (HB2.out.trans (hb3.mono HB2.out.size))
    clear hb3
    by_cases hpos : 0 < k
    rotate_left
    · obtain rfl : acd = 3 := hq.elim (fun h => h.2) (fun h => absurd h.1 hpos)
      obtain rfl : bcd = 3 := hsh.elim (fun h => h.2) (fun h => absurd h.1 hpos)
      clear hq hsh
      obtain rfl : k = 0 := by omega
      clear hpos
      have HST : Hid (stabB L 0 r 100 d lim = true) := by
        rw [Hid, stabB_iff]; intro j hj; rw [HLM.out] at hj; omega
      go_wp2_with fail
      refine (isStable_ok AL 0 cl r 100 d lim L w3 HL3.out HV.out hcl hcl2 hr (by omega) hd hlim).mono ?_
      rintro e W4 ⟨rfl, hb4⟩
      rw [HST.out]
      have HL4 := Lib.hid (HL3.out.below hb4)
      have HB4 := Lib.hid (HB3.out.trans (hb4.mono HB3.out.size))
      clear hb4
      go_wp2_with fail
      refine (moreLoad_ok AL 0 cl r 100 d lim L W4 HL4.out HV.out hcl hcl2 hr (by omega) hd hlim).mono ?_
      rintro e w5 ⟨ld, mcd, rfl, hmore, hb5⟩
      have HB5 := Lib.hid (HB4.out.trans (hb5.mono HB4.out.size))
      have HL5 := Lib.hid (HL4.out.below hb5)
      clear hb5
      have hm2 : mcd = 3 ∨ mcd = 0 ∧ 1 ≤ ld ∧ ld ≤ 1000000 ∧ stabB L ld r 100 d lim = false := by
        rcases hmore with ⟨h, _⟩ | ⟨_, h⟩
        · rw [HST.out] at h; cases h
        · exact h
      clear hmore
      rcases hm2 with rfl | ⟨rfl, hld0, hld1, hld2⟩
      · go_wp2_with fail
        refine (steepestFor_ok AL 0 cl 100 d lim L w5 HL5.out HV.out hcl hcl2 (by omega) hd hlim).mono ?_
        rintro e wt ⟨st, scd, rfl, hst, hbt⟩
        have HBT := Lib.hid (HB5.out.trans (hbt.mono HB5.out.size))
        have HLT := Lib.hid (HL5.out.below hbt)
        clear hbt
        rcases hst with ⟨rfl, hs0, hs1, hs2, hs3⟩ | ⟨rfl, hs2⟩
        · have HS2 : Hid (stabB L 0 st 100 d lim = true) := by rw [Hid]; simpa using hs2
          clear hs2
          by_cases h100 : st = 100
          · subst h100
            clear hs3
            go_wp2_with fail
            refine (specIsStable_ok AL 0 cl 100 100 d lim L wt HLT.out HV.out hcl hcl2 (by omega) (by omega) hd hlim).mono ?_
            rintro e wu ⟨rfl, hbu⟩
            rw [HS2.out]
            have HBU := Lib.hid (HBT.out.trans (hbu.mono HBT.out.size))
            clear hbu
            go_wp2
            go_ret
            exact Ret.b rfl HBU.out
          · have h100e : (st == 100) = false := by simp [h100]
            have HS3 : Hid (stabB L 0 (st + 1) 100 d lim = false) := by
              rcases hs3 with h | h
              · exact absurd h (by simpa using h100)
              · exact h
            have hst1 : st + 1 ≤ 100 := by
              have hz : st ≤ 100 := by simpa using hs1
              omega
            clear hs3
            go_wp2_with fail
            refine (specIsStable_ok AL 0 cl st 100 d lim L wt HLT.out HV.out hcl hcl2 (by omega) (by omega) hd hlim).mono ?_
            rintro e wu ⟨rfl, hbu⟩
            rw [HS2.out]
            have HBU := Lib.hid (HBT.out.trans (hbu.mono HBT.out.size))
            have HLU := Lib.hid (HLT.out.below hbu)
            clear hbu
            go_wp2_with fail
            refine (specIsStable_ok AL 0 cl (st + 1) 100 d lim L wu HLU.out HV.out hcl hcl2 (by omega) (by omega) hd hlim).mono ?_
            rintro e wv ⟨rfl, hbv⟩
            rw [HS3.out]
            have HBV := Lib.hid (HBU.out.trans (hbv.mono HBU.out.size))
            clear hbv
            go_wp2
            go_ret
            exact Ret.b rfl HBV.out
        · have HS2 := Lib.hid hs2
          clear hs2
          go_wp2_with fail
          refine (specIsStable_ok AL 0 cl 0 100 d lim L wt HLT.out HV.out hcl hcl2 (by omega) (by omega) hd hlim).mono ?_
          rintro e wu ⟨rfl, hbu⟩
          have hs0 : stabB L 0 0 100 d lim = false := by simpa using HS2.out
          rw [hs0]
          have HBU := Lib.hid (HBT.out.trans (hbu.mono HBT.out.size))
          clear hbu hs0
          go_wp2
          go_ret
          exact Ret.b rfl HBU.out
      · exfalso
        rw [← Bool.not_eq_true, stabB_iff] at hld2
        exact hld2 fun k hk => absurd hk (by rw [HLM.out]; omega)
    have hq2 : acd = 0 ∧ (q, l) = weakN (lowAt L 0 r 100 d) 1000000 k := hq.elim (fun h => absurd h.1 (by omega)) (fun h => h.2)
    have hsh2 : bcd = 0 ∧ 0 ≤ sh := hsh.elim (fun h => absurd h.1 (by omega)) (fun h => h.2)
    obtain ⟨rfl, hqw⟩ := hq2
    obtain ⟨rfl, hsh0⟩ := hsh2
    obtain ⟨qn, hqn, hqe, hqall⟩ := weakN_spec (lowAt L 0 r 100 d) 1000000 k hpos
    have hsw := stabB_weak (L := L) (more := 0) (rise := r) (run := 100) (d := d) (limit := lim) hlim.2
    rw [HLM.out, ← hqw] at hsw
    rw [hqe] at hqw
    injection hqw with hq1 hq2
    subst hq1
    have HQA := Lib.hid hqall
    have HQL := Lib.hid hq2
    clear hq hsh hqe hqall hq2
    have hqk : decide (k ≤ qn) = false := decide_eq_false (by omega)
    have hq0 : decide ((qn : Int) < 0) = false := decide_eq_false (by omega)
    have hsh1 : decide (sh < 0) = false := decide_eq_false (by omega)
    go_wp2_with fail
    refine (isStable_ok AL k cl r 100 d lim L w3 HL3.out HV.out hcl hcl2 hr (by omega) hd hlim).mono ?_
    rintro e w4 ⟨rfl, hb4⟩
    have HL4' := Lib.hid (HL3.out.below hb4)
    have HB4' := Lib.hid (HB3.out.trans (hb4.mono HB3.out.size))
    clear hb4
    by_cases hle : lim ≤ l
    · have HST : Hid (stabB L 0 r 100 d lim = true) := by rw [Hid, hsw]; exact decide_eq_true hle
      rw [HST.out]
      clear hsw
      go_wp2
      go_loopg [32] k (fun gk s32 W => ∃ j : Nat, j ≤ k ∧ gk = k - j ∧ s32 = .int .i64 j ∧ Below w4.heap.size w4 W)
      case atStart => exact ⟨0, Nat.zero_le _, rfl, rfl, Below.refl _ _⟩
      case round =>
        obtain ⟨j, hj, hgj, rfl, hbj⟩ := hrel
        have HGJ := Lib.hid hgj
        have HL4 := Lib.hid (HL4'.out.below hbj)
        have HB4 := Lib.hid (HB4'.out.trans (hbj.mono HB4'.out.size))
        have HBJ := Lib.hid hbj
        clear hgj hbj
        by_cases hjk : j < k
        · obtain ⟨ab, ao, x, rfl, _⟩ := Layer.at_ HL4.out hjk
          have hmin := HQA.out j hjk
          go_wp2_with fail
          refine (specIndexBounds_ok ab ao k cl j r 100 d L wr HL4.out HV.out hjk hcl hcl2 hr (by omega) hd).mono ?_
          rintro e w6 ⟨rfl, hb6⟩
          have HBN := Lib.hid (HBJ.out.trans (hb6.mono HBJ.out.size))
          clear hb6
          obtain ⟨hi, hhi⟩ : ∃ hi, highAt L 0 r 100 d j = hi := ⟨_, rfl⟩
          rw [hhi]
          clear hhi
          by_cases hjq : j = qn
          · subst hjq
            rw [← HQL.out]
            have hll : decide (l < l) = false := by simp
            clear hmin
            go_wp2
            go_roundg (k - (j + 1))
            case measure => have := HGJ.out; omega
            case rel => exact ⟨j + 1, by omega, rfl, by go_num, HBN.out⟩
          · have hjq2 : ((j : Int) == (qn : Int)) = false := by simp; omega
            rw [← HQL.out] at hmin
            obtain ⟨lo, hlo⟩ : ∃ lo, lowAt L 0 r 100 d j = lo := ⟨_, rfl⟩
            rw [hlo] at hmin ⊢
            have hml : decide (lo < l) = false := decide_eq_false (by omega)
            clear hlo hmin
            go_wp2
            go_roundg (k - (j + 1))
            case measure => have := HGJ.out; omega
            case rel => exact ⟨j + 1, by omega, rfl, by go_num, HBN.out⟩
        have hjk2 : j = k := by omega
        have hjk3 : decide ((j : Int) < (k : Int)) = false := decide_eq_false (by omega)
        clear hjk2 hj
        go_wp2_with fail
        refine (moreLoad_ok AL k cl r 100 d lim L wr HL4.out HV.out hcl hcl2 hr (by omega) hd hlim).mono ?_
        rintro e w5 ⟨ld, mcd, rfl, hmore, hb5⟩
        have HB5 := Lib.hid (HB4.out.trans (hb5.mono HB4.out.size))
        have HL5 := Lib.hid (HL4.out.below hb5)
        clear hb5
        have hm2 : mcd = 3 ∨ mcd = 0 ∧ 1 ≤ ld ∧ ld ≤ 1000000 ∧ stabB L ld r 100 d lim = false := by
          rcases hmore with ⟨h, _⟩ | ⟨_, h⟩
          · rw [HST.out] at h; cases h
          · exact h
        clear hmore
        rcases hm2 with rfl | ⟨rfl, hld0, hld1, hld2⟩
        · go_wp2_with fail
          refine (steepestFor_ok AL k cl 100 d lim L w5 HL5.out HV.out hcl hcl2 (by omega) hd hlim).mono ?_
          rintro e wt ⟨st, scd, rfl, hst, hbt⟩
          have HBT := Lib.hid (HB5.out.trans (hbt.mono HB5.out.size))
          have HLT := Lib.hid (HL5.out.below hbt)
          clear hbt
          rcases hst with ⟨rfl, hs0, hs1, hs2, hs3⟩ | ⟨rfl, hs2⟩
          · have HS2 : Hid (stabB L 0 st 100 d lim = true) := by rw [Hid]; simpa using hs2
            clear hs2
            by_cases h100 : st = 100
            · subst h100
              clear hs3
              go_wp2_with fail
              refine (specIsStable_ok AL k cl 100 100 d lim L wt HLT.out HV.out hcl hcl2 (by omega) (by omega) hd hlim).mono ?_
              rintro e wu ⟨rfl, hbu⟩
              rw [HS2.out]
              have HBU := Lib.hid (HBT.out.trans (hbu.mono HBT.out.size))
              clear hbu
              go_wp2
              go_ret
              exact Ret.b rfl HBU.out
            · have h100e : (st == 100) = false := by simp [h100]
              have HS3 : Hid (stabB L 0 (st + 1) 100 d lim = false) := by
                rcases hs3 with h | h
                · exact absurd h (by simpa using h100)
                · exact h
              have hst1 : st + 1 ≤ 100 := by
                have hz : st ≤ 100 := by simpa using hs1
                omega
              clear hs3
              go_wp2_with fail
              refine (specIsStable_ok AL k cl st 100 d lim L wt HLT.out HV.out hcl hcl2 (by omega) (by omega) hd hlim).mono ?_
              rintro e wu ⟨rfl, hbu⟩
              rw [HS2.out]
              have HBU := Lib.hid (HBT.out.trans (hbu.mono HBT.out.size))
              have HLU := Lib.hid (HLT.out.below hbu)
              clear hbu
              go_wp2_with fail
              refine (specIsStable_ok AL k cl (st + 1) 100 d lim L wu HLU.out HV.out hcl hcl2 (by omega) (by omega) hd hlim).mono ?_
              rintro e wv ⟨rfl, hbv⟩
              rw [HS3.out]
              have HBV := Lib.hid (HBU.out.trans (hbv.mono HBU.out.size))
              clear hbv
              go_wp2
              go_ret
              exact Ret.b rfl HBV.out
          · have HS2 := Lib.hid hs2
            clear hs2
            go_wp2_with fail
            refine (specIsStable_ok AL k cl 0 100 d lim L wt HLT.out HV.out hcl hcl2 (by omega) (by omega) hd hlim).mono ?_
            rintro e wu ⟨rfl, hbu⟩
            have hs0 : stabB L 0 0 100 d lim = false := by simpa using HS2.out
            rw [hs0]
            have HBU := Lib.hid (HBT.out.trans (hbu.mono HBT.out.size))
            clear hbu hs0
            go_wp2
            go_ret
            exact Ret.b rfl HBU.out
        · have HLD2 := Lib.hid hld2
          clear hld2
          by_cases h16 : k < 16
          · have hone : Layer.oneB ⟨6, ld, 0, 900, 0, 1, 0⟩ = true := by
              unfold Layer.oneB
              simp only [Bool.and_eq_true, inB_iff]
              omega
            have HONE := Lib.hid hone
            clear hone
            obtain ⟨ab, ao, rfl⟩ : ∃ ab ao, AL = some ⟨ab, ao, none⟩ := by
              obtain ⟨b, o, h, _⟩ := HL5.out.base_ hpos
              exact ⟨b, o, h⟩
            obtain ⟨wb, hwb⟩ : ∃ wb, w5.alloc (.cells #[.int .i64 6, .int .i64 ld, .int .i64 0, .int .i64 900, .int .i64 0, .int .i64 1, .int .i64 0] 30) = wb := ⟨_, rfl⟩
            have hbb : Below w5.heap.size w5 wb := by rw [← hwb]; exact (Below.refl _ _).alloc (Nat.le_refl _) _
            have HB6 := Lib.hid (HB5.out.trans (hbb.mono HB5.out.size))
            have HL6 := Lib.hid (HL5.out.below hbb)
            have HWB := Lib.hid hwb
            clear hbb hwb
            go_wp2_with fail
            rw [HWB.out]
            refine (addLayer_ok ab ao k cl L ⟨6, ld, 0, 900, 0, 1, 0⟩ wb HL6.out HV.out hpos h16 HONE.out).mono ?_
            rintro e w7 ⟨v, rfl, hown, hb7⟩
            have HB7 := Lib.hid (HB6.out.trans (hb7.mono HB6.out.size))
            have HL7 := Lib.hid (HL6.out.below hb7)
            obtain ⟨A7, c7, rfl, hc7, hc72, hsl7⟩ := hown.slice Layer.cells_len
            obtain ⟨m7, hm7⟩ : ∃ m7, (L ++ [(⟨6, ld, 0, 900, 0, 1, 0⟩ : Layer)]).length = m7 := ⟨_, rfl⟩
            have HV7 : Hid (profB (L ++ [(⟨6, ld, 0, 900, 0, 1, 0⟩ : Layer)]) = true) := by
              have hp := profB_iff.1 HV.out
              have hlm := HLM.out
              refine profB_iff.2 ⟨by rw [List.length_append]; simp; omega, fun y hy => ?_⟩
              rcases List.mem_append.1 hy with h | h
              · exact hp.2 y h
              · rw [List.mem_singleton.1 h]; exact HONE.out
            have HST7 : Hid (stabB (L ++ [(⟨6, ld, 0, 900, 0, 1, 0⟩ : Layer)]) 0 r 100 d lim = false) := stab_layer HLD2.out (by show ld + 0 = ld; omega)
            obtain ⟨L7, hL7⟩ : ∃ L7, L ++ [(⟨6, ld, 0, 900, 0, 1, 0⟩ : Layer)] = L7 := ⟨_, rfl⟩
            rw [hm7] at hsl7 hc7 ⊢
            rw [hL7] at hsl7 HV7 HST7
            have HSL7 := Lib.hid hsl7
            have hc73 : c7 ≤ 9223372036854775807 := hc72
            clear hown hb7 hsl7 hm7 hL7 hc72
            go_wp2_with fail
            refine (specIsStable_ok A7 m7 c7 r 100 d lim L7 w7 HSL7.out HV7.out hc7 hc73 hr (by omega) hd hlim).mono ?_
            rintro e w8 ⟨rfl, hb8⟩
            rw [HST7.out]
            have HB8 := Lib.hid (HB7.out.trans (hb8.mono HB7.out.size))
            have HL8 := Lib.hid (HL7.out.below hb8)
            clear hb8
            go_wp2_with fail
            refine (steepestFor_ok (some ⟨ab, ao, none⟩) k cl 100 d lim L w8 HL8.out HV.out hcl hcl2 (by omega) hd hlim).mono ?_
            rintro e wt ⟨st, scd, rfl, hst, hbt⟩
            have HBT := Lib.hid (HB8.out.trans (hbt.mono HB8.out.size))
            have HLT := Lib.hid (HL8.out.below hbt)
            clear hbt
            rcases hst with ⟨rfl, hs0, hs1, hs2, hs3⟩ | ⟨rfl, hs2⟩
            · have HS2 : Hid (stabB L 0 st 100 d lim = true) := by rw [Hid]; simpa using hs2
              clear hs2
              by_cases h100 : st = 100
              · subst h100
                clear hs3
                go_wp2_with fail
                refine (specIsStable_ok (some ⟨ab, ao, none⟩) k cl 100 100 d lim L wt HLT.out HV.out hcl hcl2 (by omega) (by omega) hd hlim).mono ?_
                rintro e wu ⟨rfl, hbu⟩
                rw [HS2.out]
                have HBU := Lib.hid (HBT.out.trans (hbu.mono HBT.out.size))
                clear hbu
                go_wp2
                go_ret
                exact Ret.b rfl HBU.out
              · have h100e : (st == 100) = false := by simp [h100]
                have HS3 : Hid (stabB L 0 (st + 1) 100 d lim = false) := by
                  rcases hs3 with h | h
                  · exact absurd h (by simpa using h100)
                  · exact h
                have hst1 : st + 1 ≤ 100 := by
                  have hz : st ≤ 100 := by simpa using hs1
                  omega
                clear hs3
                go_wp2_with fail
                refine (specIsStable_ok (some ⟨ab, ao, none⟩) k cl st 100 d lim L wt HLT.out HV.out hcl hcl2 (by omega) (by omega) hd hlim).mono ?_
                rintro e wu ⟨rfl, hbu⟩
                rw [HS2.out]
                have HBU := Lib.hid (HBT.out.trans (hbu.mono HBT.out.size))
                have HLU := Lib.hid (HLT.out.below hbu)
                clear hbu
                go_wp2_with fail
                refine (specIsStable_ok (some ⟨ab, ao, none⟩) k cl (st + 1) 100 d lim L wu HLU.out HV.out hcl hcl2 (by omega) (by omega) hd hlim).mono ?_
                rintro e wv ⟨rfl, hbv⟩
                rw [HS3.out]
                have HBV := Lib.hid (HBU.out.trans (hbv.mono HBU.out.size))
                clear hbv
                go_wp2
                go_ret
                exact Ret.b rfl HBV.out
            · have HS2 := Lib.hid hs2
              clear hs2
              go_wp2_with fail
              refine (specIsStable_ok (some ⟨ab, ao, none⟩) k cl 0 100 d lim L wt HLT.out HV.out hcl hcl2 (by omega) (by omega) hd hlim).mono ?_
              rintro e wu ⟨rfl, hbu⟩
              have hs0 : stabB L 0 0 100 d lim = false := by simpa using HS2.out
              rw [hs0]
              have HBU := Lib.hid (HBT.out.trans (hbu.mono HBT.out.size))
              clear hbu hs0
              go_wp2
              go_ret
              exact Ret.b rfl HBU.out
          · have h16d : decide (k < 16) = false := decide_eq_false h16
            go_wp2_with fail
            refine (steepestFor_ok AL k cl 100 d lim L w5 HL5.out HV.out hcl hcl2 (by omega) hd hlim).mono ?_
            rintro e wt ⟨st, scd, rfl, hst, hbt⟩
            have HBT := Lib.hid (HB5.out.trans (hbt.mono HB5.out.size))
            have HLT := Lib.hid (HL5.out.below hbt)
            clear hbt
            rcases hst with ⟨rfl, hs0, hs1, hs2, hs3⟩ | ⟨rfl, hs2⟩
            · have HS2 : Hid (stabB L 0 st 100 d lim = true) := by rw [Hid]; simpa using hs2
              clear hs2
              by_cases h100 : st = 100
              · subst h100
                clear hs3
                go_wp2_with fail
                refine (specIsStable_ok AL k cl 100 100 d lim L wt HLT.out HV.out hcl hcl2 (by omega) (by omega) hd hlim).mono ?_
                rintro e wu ⟨rfl, hbu⟩
                rw [HS2.out]
                have HBU := Lib.hid (HBT.out.trans (hbu.mono HBT.out.size))
                clear hbu
                go_wp2
                go_ret
                exact Ret.b rfl HBU.out
              · have h100e : (st == 100) = false := by simp [h100]
                have HS3 : Hid (stabB L 0 (st + 1) 100 d lim = false) := by
                  rcases hs3 with h | h
                  · exact absurd h (by simpa using h100)
                  · exact h
                have hst1 : st + 1 ≤ 100 := by
                  have hz : st ≤ 100 := by simpa using hs1
                  omega
                clear hs3
                go_wp2_with fail
                refine (specIsStable_ok AL k cl st 100 d lim L wt HLT.out HV.out hcl hcl2 (by omega) (by omega) hd hlim).mono ?_
                rintro e wu ⟨rfl, hbu⟩
                rw [HS2.out]
                have HBU := Lib.hid (HBT.out.trans (hbu.mono HBT.out.size))
                have HLU := Lib.hid (HLT.out.below hbu)
                clear hbu
                go_wp2_with fail
                refine (specIsStable_ok AL k cl (st + 1) 100 d lim L wu HLU.out HV.out hcl hcl2 (by omega) (by omega) hd hlim).mono ?_
                rintro e wv ⟨rfl, hbv⟩
                rw [HS3.out]
                have HBV := Lib.hid (HBU.out.trans (hbv.mono HBU.out.size))
                clear hbv
                go_wp2
                go_ret
                exact Ret.b rfl HBV.out
            · have HS2 := Lib.hid hs2
              clear hs2
              go_wp2_with fail
              refine (specIsStable_ok AL k cl 0 100 d lim L wt HLT.out HV.out hcl hcl2 (by omega) (by omega) hd hlim).mono ?_
              rintro e wu ⟨rfl, hbu⟩
              have hs0 : stabB L 0 0 100 d lim = false := by simpa using HS2.out
              rw [hs0]
              have HBU := Lib.hid (HBT.out.trans (hbu.mono HBT.out.size))
              clear hbu hs0
              go_wp2
              go_ret
              exact Ret.b rfl HBU.out
    · have HST : Hid (stabB L 0 r 100 d lim = false) := by rw [Hid, hsw]; exact decide_eq_false hle
      have hle2 : decide (lim ≤ l) = false := decide_eq_false hle
      rw [HST.out]
      clear hsw
      go_wp2
      go_loopg [32] k (fun gk s32 W => ∃ j : Nat, j ≤ k ∧ gk = k - j ∧ s32 = .int .i64 j ∧ Below w4.heap.size w4 W)
      case atStart => exact ⟨0, Nat.zero_le _, rfl, rfl, Below.refl _ _⟩
      case round =>
        obtain ⟨j, hj, hgj, rfl, hbj⟩ := hrel
        have HGJ := Lib.hid hgj
        have HL4 := Lib.hid (HL4'.out.below hbj)
        have HB4 := Lib.hid (HB4'.out.trans (hbj.mono HB4'.out.size))
        have HBJ := Lib.hid hbj
        clear hgj hbj
        by_cases hjk : j < k
        · obtain ⟨ab, ao, x, rfl, _⟩ := Layer.at_ HL4.out hjk
          have hmin := HQA.out j hjk
          go_wp2_with fail
          refine (specIndexBounds_ok ab ao k cl j r 100 d L wr HL4.out HV.out hjk hcl hcl2 hr (by omega) hd).mono ?_
          rintro e w6 ⟨rfl, hb6⟩
          have HBN := Lib.hid (HBJ.out.trans (hb6.mono HBJ.out.size))
          clear hb6
          obtain ⟨hi, hhi⟩ : ∃ hi, highAt L 0 r 100 d j = hi := ⟨_, rfl⟩
          rw [hhi]
          clear hhi
          by_cases hjq : j = qn
          · subst hjq
            rw [← HQL.out]
            have hll : decide (l < l) = false := by simp
            clear hmin
            go_wp2
            go_roundg (k - (j + 1))
            case measure => have := HGJ.out; omega
            case rel => exact ⟨j + 1, by omega, rfl, by go_num, HBN.out⟩
          · have hjq2 : ((j : Int) == (qn : Int)) = false := by simp; omega
            rw [← HQL.out] at hmin
            obtain ⟨lo, hlo⟩ : ∃ lo, lowAt L 0 r 100 d j = lo := ⟨_, rfl⟩
            rw [hlo] at hmin ⊢
            have hml : decide (lo < l) = false := decide_eq_false (by omega)
            clear hlo hmin
            go_wp2
            go_roundg (k - (j + 1))
            case measure => have := HGJ.out; omega
            case rel => exact ⟨j + 1, by omega, rfl, by go_num, HBN.out⟩
        have hjk2 : j = k := by omega
        have hjk3 : decide ((j : Int) < (k : Int)) = false := decide_eq_false (by omega)
        clear hjk2 hj
        go_wp2_with fail
        refine (moreLoad_ok AL k cl r 100 d lim L wr HL4.out HV.out hcl hcl2 hr (by omega) hd hlim).mono ?_
        rintro e w5 ⟨ld, mcd, rfl, hmore, hb5⟩
        have HB5 := Lib.hid (HB4.out.trans (hb5.mono HB4.out.size))
        have HL5 := Lib.hid (HL4.out.below hb5)
        clear hb5
        obtain rfl : mcd = 6 := by
          rcases hmore with ⟨_, h⟩ | ⟨h, _⟩
          · exact h
          · rw [HST.out] at h; cases h
        clear hmore
        go_wp2_with fail
        refine (steepestFor_ok AL k cl 100 d lim L w5 HL5.out HV.out hcl hcl2 (by omega) hd hlim).mono ?_
        rintro e wt ⟨st, scd, rfl, hst, hbt⟩
        have HBT := Lib.hid (HB5.out.trans (hbt.mono HB5.out.size))
        have HLT := Lib.hid (HL5.out.below hbt)
        clear hbt
        rcases hst with ⟨rfl, hs0, hs1, hs2, hs3⟩ | ⟨rfl, hs2⟩
        · have HS2 : Hid (stabB L 0 st 100 d lim = true) := by rw [Hid]; simpa using hs2
          clear hs2
          by_cases h100 : st = 100
          · subst h100
            clear hs3
            go_wp2_with fail
            refine (specIsStable_ok AL k cl 100 100 d lim L wt HLT.out HV.out hcl hcl2 (by omega) (by omega) hd hlim).mono ?_
            rintro e wu ⟨rfl, hbu⟩
            rw [HS2.out]
            have HBU := Lib.hid (HBT.out.trans (hbu.mono HBT.out.size))
            clear hbu
            go_wp2
            go_ret
            exact Ret.b rfl HBU.out
          · have h100e : (st == 100) = false := by simp [h100]
            have HS3 : Hid (stabB L 0 (st + 1) 100 d lim = false) := by
              rcases hs3 with h | h
              · exact absurd h (by simpa using h100)
              · exact h
            have hst1 : st + 1 ≤ 100 := by
              have hz : st ≤ 100 := by simpa using hs1
              omega
            clear hs3
            go_wp2_with fail
            refine (specIsStable_ok AL k cl st 100 d lim L wt HLT.out HV.out hcl hcl2 (by omega) (by omega) hd hlim).mono ?_
            rintro e wu ⟨rfl, hbu⟩
            rw [HS2.out]
            have HBU := Lib.hid (HBT.out.trans (hbu.mono HBT.out.size))
            have HLU := Lib.hid (HLT.out.below hbu)
            clear hbu
            go_wp2_with fail
            refine (specIsStable_ok AL k cl (st + 1) 100 d lim L wu HLU.out HV.out hcl hcl2 (by omega) (by omega) hd hlim).mono ?_
            rintro e wv ⟨rfl, hbv⟩
            rw [HS3.out]
            have HBV := Lib.hid (HBU.out.trans (hbv.mono HBU.out.size))
            clear hbv
            go_wp2
            go_ret
            exact Ret.b rfl HBV.out
        · have HS2 := Lib.hid hs2
          clear hs2
          go_wp2_with fail
          refine (specIsStable_ok AL k cl 0 100 d lim L wt HLT.out HV.out hcl hcl2 (by omega) (by omega) hd hlim).mono ?_
          rintro e wu ⟨rfl, hbu⟩
          have hs0 : stabB L 0 0 100 d lim = false := by simpa using HS2.out
          rw [hs0]
          have HBU := Lib.hid (HBT.out.trans (hbu.mono HBT.out.size))
          clear hbu hs0
          go_wp2
          go_ret
          exact Ret.b rfl HBU.out

end Go.Proofs.Ytmfghgoboibjdaa
