/- The walk of the law FnRaised: it returns true. -/
import Derived.Test.YtpibiieibofggaaRaiZ
import Derived.Test.YtpibiieibofggaaRaiY
import Derived.Test.YtpibiieibofggaaSetL
import Derived.Test.YtpibiieibofggaaJmpB
import Derived.Test.YtpibiieibofggaaDrwD
import Derived.Deep.RegionHeld3
import Derived.Deep.RegionLaw
namespace Go.Proofs.Ytpibiieibofggaa
open Go.RowKit

theorem Region.Sl.at2 {w : World} {b o n : Nat} {xs : List Region} (h : Region.Sl w (some ⟨b, o, none⟩) n xs) {k : Nat} (hk : k < n) : ∃ r : RegionR, b < w.heap.size ∧ xs[k]? = some r.val ∧ r.In w ∧ w.cell? ⟨b, o + k * 3, none⟩ = some (.string r.id) ∧ w.cell? ⟨b, o + k * 3 + 1, none⟩ = some (.int .i64 r.level) ∧ w.cell? ⟨b, o + k * 3 + 2, none⟩ = some (.slice r.nearA r.nearN r.nearC) := by
  obtain ⟨b', o', r, hA, hb, hx, hi, y0, y1, y2⟩ := h.at_ hk
  injection hA with hA
  injection hA with e1 e2 _
  subst e1 e2
  exact ⟨r, hb, hx, hi, y0, y1, y2⟩
theorem pair_here {ps : List PairR} {ys : List Region} {least : Int} {i q : Nat} {r y : Region} (h : ps.map PairR.val = lawTo ys least ys.length) (hr : ys[i]? = some r) (hy : ys[i + 1 + q]? = some y) (hb : lawB least r y = true) : ∃ p, ps[(lawPre ys least i r q).length]? = some p ∧ p.a = r.id ∧ p.b = y.id := by
  have h1 := lawPre_at hr hy hb
  rw [← h, List.getElem?_map] at h1
  cases h2 : ps[(lawPre ys least i r q).length]? with
  | none => rw [h2] at h1; cases h1
  | some p =>
    rw [h2] at h1
    simp [PairR.val] at h1
    exact ⟨p, rfl, h1.1, h1.2⟩
theorem pairs_at {w : World} {A : Option Addr} {n : Nat} {ps : List PairR} (h : SliceOf w 1 PairR.cells A n ps) {k : Nat} (hk : k < n) : ∃ b o p, A = some ⟨b, o, none⟩ ∧ b < w.heap.size ∧ ps[k]? = some p ∧ w.cell? ⟨b, o + k, none⟩ = some (.slice (some ⟨p.g, 0, none⟩) 2 2) := by
  obtain ⟨b, o, p, hA, hb, hx, hc⟩ := h.at_ hk
  have h0 := hc 0 _ rfl
  rw [Nat.mul_one, Nat.add_zero] at h0
  exact ⟨b, o, p, hA, hb, hx, h0⟩
set_option maxRecDepth 100000 in
set_option maxHeartbeats 4000000 in
theorem walk_FnRaised (A0 : Option Addr) (n0 c0 : Nat) (x0 : List Int) (A1 : Option Addr) (n1 c1 : Nat) (x1 : List Int) (w : World) (s0 : SliceOf w 1 u8cells A0 n0 x0) (g0 : ∀ x ∈ x0, 0 ≤ x ∧ x ≤ 255) (s1 : SliceOf w 1 u8cells A1 n1 x1) (g1 : ∀ x ∈ x1, 0 ≤ x ∧ x ≤ 255) :
    Calls Try.prog 3 #[.slice A0 n0 c0, .slice A1 n1 c1] w (Ret (.bool true) w) := by
  have S0 := Lib.hid s0
  have S1 := Lib.hid s1
  have G0 := Lib.hid g0
  have G1 := Lib.hid g1
  have hn0 := s0.le
  have hn1 := s1.le
  clear s0 s1 g0 g1
  cases hl0 : decide (1048576 < n0)
  rotate_left
  · go_enter Try.func3, Try.ntmps3
    go_wp2_with (go_at_call 5; refine (b10LongB_any _ _ _ _ hn0).mono ?_; rintro e w' ⟨rfl, rfl⟩; rw [hl0])
    go_ret
    exact Ret.b rfl (Below.refl _ _)
  cases hl1 : decide (1048576 < n1)
  rotate_left
  · go_enter Try.func3, Try.ntmps3
    go_wp2_with (go_at_call 5; first | (refine (b10LongB_any A0 n0 c0 _ hn0).mono ?_; rintro e w' ⟨rfl, rfl⟩; rw [hl0]) | (refine (b10LongB_any A1 n1 c1 _ hn1).mono ?_; rintro e w' ⟨rfl, rfl⟩; rw [hl1]))
    go_ret
    exact Ret.b rfl (Below.refl _ _)
  go_enter Try.func3, Try.ntmps3
  go_wp2_with fail
  refine (b10LongB_any A0 n0 c0 _ hn0).mono ?_
  rintro e w' ⟨rfl, rfl⟩
  rw [hl0]
  go_wp2_with fail
  refine (b10LongB_any A1 n1 c1 _ hn1).mono ?_
  rintro e w' ⟨rfl, rfl⟩
  rw [hl1]
  clear hl0 hl1 hn0 hn1
  go_wp2_with fail
  refine (drawRaise_any A0 n0 c0 x0 w S0.out G0.out).mono ?_
  rintro e w1 ⟨VA, vc, xs, most, budget, rfl, hsl, hgd, hb1⟩
  obtain ⟨n, hn⟩ : ∃ n, xs.length = n := ⟨_, rfl⟩
  rw [hn] at hsl ⊢
  have HN := Lib.hid hn
  have HX1 := Lib.hid hsl
  have HG := Lib.hid hgd
  have HB1 := Lib.hid hb1
  clear hsl hgd hb1 hn
  go_wp2_with fail
  refine (implRaiseRegions_any most budget VA n vc xs w1 HX1.out HG.out).mono ?_
  rintro e w2 ⟨v2, rfl, ho2, hb2⟩
  have HB2 := Lib.hid (HB1.out.trans (hb2.mono HB1.out.size))
  have HX2 := Lib.hid (HX1.out.below hb2)
  clear hb2
  by_cases hc : raiC xs most budget = 0
  rotate_left
  · have hne : (raiC xs most budget == 0) = false := by simp [hc]
    obtain ⟨hz1, hz2⟩ := rai_no hc
    rw [hz1]
    obtain ⟨LA, lc, rfl, _, _, _⟩ := ho2.slice i64cells_len
    have hz3 : (raiR xs most budget).length = 0 := by rw [hz2]; rfl
    rw [hz3]
    have HBZ := HB2
    clear ho2 hz1 hz2 hz3 hc HB2
    go_wp2_with fail
    refine (drawJumps_any A1 n1 c1 x1 w2 (S1.out.below HBZ.out) G1.out).mono ?_
    rintro e w3 ⟨RA, rc, ys, least, rfl, hsl3, hgd3, hb3⟩
    obtain ⟨m, hm⟩ : ∃ m, ys.length = m := ⟨_, rfl⟩
    rw [hm] at hsl3 ⊢
    have HM := Lib.hid hm
    have HY3 := Lib.hid hsl3
    have HG3 := Lib.hid hgd3
    have HB3 := Lib.hid (HBZ.out.trans (hb3.mono HBZ.out.size))
    clear hsl3 hgd3 hb3 hm
    go_wp2_with fail
    refine (implJumpsOf_any least RA m rc ys w3 HY3.out HG3.out).mono ?_
    rintro e w4 ⟨v4, ps, rfl, hp4, hj4, hb4⟩
    have HB4 := Lib.hid (HB3.out.trans (hb4.mono HB3.out.size))
    have HY4 := Lib.hid (HY3.out.below hb4)
    obtain ⟨P, hP⟩ : ∃ P, ps.length = P := ⟨_, rfl⟩
    have HP := Lib.hid hP
    have HONE := Lib.hid hp4.one
    have HJ4 := Lib.hid hj4
    obtain ⟨JA, jc, rfl, _, _, hjs⟩ := hp4.own.slice PairR.cells_len
    rw [hP] at hjs ⊢
    have HJS := Lib.hid hjs
    have hP9 := hjs.le
    clear hb4 hp4 hj4 hP hjs
    by_cases hjc : jumC ys least = 0
    rotate_left
    · have hne : (jumC ys least == 0) = false := by simp [hjc]
      have hp0 : 0 = P := by rw [← HP.out]; have h := congrArg List.length HJ4.out; rw [jumL_no hjc, List.length_map] at h; exact h.symm
      subst hp0
      clear hjc
      go_wp2
      go_ret
      exact Ret.b rfl HB4.out
    obtain ⟨hv2, hu0, hu4, hjl⟩ := jumC_zero hjc
    have HLAW : Hid (ps.map PairR.val = lawTo ys least ys.length) := HJ4.out.trans hjl
    have HV2 := Lib.hid hv2
    have h8m : m ≤ 8 := by rw [← HM.out]; exact regionsB_len hv2
    rw [hjc]
    clear hjc hjl hv2
    go_wp2
    go_loopg [24, 25, 26] m (fun gk s24 s25 s26 wr => ∃ (i cnt : Nat), i ≤ m ∧ gk = m - i ∧ s25 = .int .i64 i ∧ s24 = .int .i64 cnt ∧ (lawTo ys least i).length = cnt ∧ Below w4.heap.size w4 wr)
    case atStart => exact ⟨0, 0, Nat.zero_le _, rfl, rfl, rfl, rfl, Below.refl _ _⟩
    case round =>
      obtain ⟨i, cnt, hi, hgi, rfl, rfl, hcnt, hbw⟩ := hrel
      have HGI := Lib.hid hgi
      have HCNT := Lib.hid hcnt
      clear hgi hcnt
      by_cases hin : i < m
      rotate_left
      · have him : i = m := by omega
        subst him
        have hcP : cnt = P := by rw [← HCNT.out, ← HP.out, ← HM.out, ← HLAW.out, List.length_map]
        subst hcP
        have HBF : Hid (Below w.heap.size w wr) := HB4.out.trans (hbw.mono HB4.out.size)
        go_wp2
        go_ret
        exact Ret.b (by simp) HBF.out
      obtain ⟨b1, o1, ⟨xi, xl, NA3, NN3, NC3, nr⟩, rfl, hb1, hx1, hi1, y0, y1, y2⟩ := HY4.out.at_ hin
      simp only [RegionR.val] at hx1 y0 y1 y2
      have HX1 := Lib.hid hx1
      have hxl := regionsB_level HV2.out (List.mem_of_getElem? hx1)
      simp only at hxl
      have HI1 : Hid (SliceOf w4 1 strcells NA3 NN3 nr) := hi1.1
      have HYC : Hid (∀ w', Below w4.heap.size w4 w' → w'.cell? ⟨b1, o1 + i * 3, none⟩ = some (.string xi) ∧ w'.cell? ⟨b1, o1 + i * 3 + 1, none⟩ = some (.int .i64 xl) ∧ w'.cell? ⟨b1, o1 + i * 3 + 2, none⟩ = some (.slice NA3 NN3 NC3) ∧ b1 < w'.heap.size) := fun w' h => ⟨(h.cell hb1).trans y0, (h.cell hb1).trans y1, (h.cell hb1).trans y2, Nat.lt_of_lt_of_le hb1 h.size⟩
      clear hx1 hi1 y0 y1 y2 hb1
      go_wp2
      go_loopg [24, 26] (m - (i + 1)) (fun gk s24 s26 wr => ∃ (q k cnt : Nat), k = i + 1 + q ∧ k ≤ m ∧ gk = m - k ∧ s26 = .int .i64 k ∧ s24 = .int .i64 cnt ∧ (lawPre ys least i ⟨xi, xl, nr⟩ q).length = cnt ∧ Below w4.heap.size w4 wr)
      case atStart => exact ⟨0, i + 1, cnt, rfl, by omega, rfl, by go_num, rfl, by rw [lawPre_zero]; exact HCNT.out, hbw⟩
      case round =>
        obtain ⟨q, k, cnt, hkq, hk, hgk, rfl, rfl, hcnt, hbw⟩ := hrel
        have HKQ := Lib.hid hkq
        have HGK := Lib.hid hgk
        have HCN := Lib.hid hcnt
        clear hgk hcnt hkq
        by_cases hkm : k < m
        rotate_left
        · have HCE : Hid ((lawTo ys least (i + 1)).length = cnt) := by
            rw [Hid, ← lawPre_all (q := q) HX1.out (by have := HKQ.out; have := HM.out; omega)]
            exact HCN.out
          go_wp2
          go_roundg (m - (i + 1))
          case measure => have := HGI.out; omega
          case rel => exact ⟨i + 1, cnt, by omega, rfl, by go_num, rfl, HCE.out, hbw⟩
        obtain ⟨⟨yi, yl, NA4, NN4, NC4, nr4⟩, hb2, hx2, _, z0, z1, _⟩ := HY4.out.at2 hkm
        simp only [RegionR.val] at hx2 z0 z1
        have HX2k : Hid (ys[i + 1 + q]? = some ⟨yi, yl, nr4⟩) := by rw [Hid, ← HKQ.out]; exact hx2
        have hyl := regionsB_level HV2.out (List.mem_of_getElem? hx2)
        simp only at hyl
        obtain ⟨y0, y1, y2, hb1⟩ := HYC.out wr hbw
        replace z0 := (hbw.cell hb2).trans z0
        replace z1 := (hbw.cell hb2).trans z1
        have hab : -4 ≤ xl - yl ∧ xl - yl ≤ 4 := by omega
        have hsub := fun (g : Sub wr) b o (h : b < wr.heap.size) => g.cell b o h
        have HIW := Lib.hid (HI1.out.below hbw)
        have HBW := Lib.hid hbw
        clear hx2 hb2 hbw
        cases hins : hasS nr yi
        · have HNB : Hid ((lawPre ys least i ⟨xi, xl, nr⟩ (q + 1)).length = cnt) := by
            rw [Hid, lawPre_no HX2k.out (by unfold lawB; rw [hins]; rfl)]
            exact HCN.out
          go_wp2_with fail
          refine wp_region_sub (by kernel_rfl) (by kernel_rfl) ?_
          repeat (go_big_quiet_step (exact Calls.sub_of_same_eq (b10Inside_any yi _ _ _ nr _ (HIW.out.below (Sub.below _))) (congrArg Value.bool hins)))
          refine wpQuiet_nil ?_
          intro wg hg
          have HBG := Lib.hid (HBW.out.trans (hg.mono HBW.out.size))
          clear hsub y0 y1 y2 z0 z1 hb1 hg hins
          go_wp2
          go_roundg (m - (k + 1))
          case measure => have := HGK.out; omega
          case rel => exact ⟨q + 1, k + 1, cnt, by have := HKQ.out; omega, by omega, rfl, by go_num, rfl, HNB.out, HBG.out⟩
        cases hge : decide (least ≤ absB (xl - yl))
        · have HNB : Hid ((lawPre ys least i ⟨xi, xl, nr⟩ (q + 1)).length = cnt) := by
            rw [Hid, lawPre_no HX2k.out (by unfold lawB; rw [hins, hge]; rfl)]
            exact HCN.out
          go_wp2_with fail
          refine wp_region_sub (by kernel_rfl) (by kernel_rfl) ?_
          repeat (go_big_quiet_step ((first | exact Calls.sub_of_same_eq (b10Inside_any yi _ _ _ nr _ (HIW.out.below (Sub.below _))) (congrArg Value.bool hins) | exact Calls.sub_of_same (b10Abs_any _ _ (by omega)))))
          refine wpQuiet_nil ?_
          intro wg hg
          have HBG := Lib.hid (HBW.out.trans (hg.mono HBW.out.size))
          clear hsub y0 y1 y2 z0 z1 hb1 hg hins hge
          go_wp2
          go_roundg (m - (k + 1))
          case measure => have := HGK.out; omega
          case rel => exact ⟨q + 1, k + 1, cnt, by have := HKQ.out; omega, by omega, rfl, by go_num, rfl, HNB.out, HBG.out⟩
        have hlb : lawB least ⟨xi, xl, nr⟩ ⟨yi, yl, nr4⟩ = true := by unfold lawB; rw [hins, hge]; rfl
        have HNB : Hid ((lawPre ys least i ⟨xi, xl, nr⟩ (q + 1)).length = cnt + 1) := by
          rw [Hid, lawPre_yes HX2k.out hlb, List.length_append, HCN.out]
          rfl
        obtain ⟨⟨pg, pa, pb⟩, hp, hpa, hpb⟩ := pair_here HLAW.out HX1.out HX2k.out hlb
        rw [HCN.out] at hp
        simp only at hpa hpb
        subst hpa hpb
        have hcP : cnt < P := by rw [← HP.out]; exact (List.getElem?_eq_some_iff.1 hp).1
        obtain ⟨b3, o3, p3, rfl, hb3, hp3, u0⟩ := pairs_at HJS.out hcP
        rw [hp] at hp3
        injection hp3 with hp3
        subst hp3
        have hone := HONE.out _ (List.mem_of_getElem? hp)
        have HPC : Hid (∀ w', Below w4.heap.size w4 w' → w'.cell? ⟨b3, o3 + cnt, none⟩ = some (.slice (some ⟨pg, 0, none⟩) 2 2) ∧ w'.cell? ⟨pg, 0, none⟩ = some (.string pa) ∧ w'.cell? ⟨pg, 1, none⟩ = some (.string pb) ∧ b3 < w'.heap.size ∧ pg < w'.heap.size) := fun w' h => ⟨(h.cell hb3).trans u0, (hone.below' h).cell 0, (hone.below' h).cell 1, Nat.lt_of_lt_of_le hb3 h.size, (hone.below' h).lt⟩
        clear hp hone hb3 u0 hlb
        go_wp2_with fail
        refine wp_region_sub (by kernel_rfl) (by kernel_rfl) ?_
        repeat (go_big_quiet_step ((first | exact Calls.sub_of_same_eq (b10Inside_any pb _ _ _ nr _ (HIW.out.below (Sub.below _))) (congrArg Value.bool hins) | exact Calls.sub_of_same (b10Abs_any _ _ (by omega)))))
        refine wpQuiet_nil ?_
        intro wg hg
        have HBG := Lib.hid (HBW.out.trans (hg.mono HBW.out.size))
        replace y0 := (hg.cell hb1).trans y0
        replace z0 := (hg.cell hb1).trans z0
        replace hb1 := Nat.lt_of_lt_of_le hb1 hg.size
        obtain ⟨u0, u1, u2, hb3, hpg⟩ := HPC.out wg HBG.out
        clear hsub y1 y2 z1 hg hins hge hab
        have hsub := fun (g : Sub wg) b o (h : b < wg.heap.size) => g.cell b o h
        have hcd : decide (P ≤ cnt) = false := decide_eq_false (by omega)
        have hs1 : (pa.toList == pa.toList) = true := beq_self_eq_true _
        have hs2 : (pb.toList == pb.toList) = true := beq_self_eq_true _
        go_wp2_with fail
        refine wp_region_sub (by kernel_rfl) (by kernel_rfl) ?_
        repeat (go_big_quiet_step (fail))
        refine wpQuiet_nil ?_
        intro wg hg
        have HBH := Lib.hid (HBG.out.trans (hg.mono HBG.out.size))
        clear hsub y0 z0 u0 u1 u2 hb3 hpg hb1 hg hcd hs1 hs2
        go_wp2
        go_roundg (m - (k + 1))
        case measure => have := HGK.out; omega
        case rel => exact ⟨q + 1, k + 1, cnt + 1, by have := HKQ.out; omega, by omega, rfl, by go_num, by go_num, HNB.out, HBH.out⟩
  obtain ⟨hv, hro⟩ := raised_ok hc
  have HV := Lib.hid hv
  have hce : raiC xs most budget = 0 := hc
  rw [hc]
  obtain ⟨best, hbest⟩ : ∃ best, raiR xs most budget = best := ⟨_, rfl⟩
  obtain ⟨sum, hsum⟩ : ∃ sum, raiL xs most budget = sum := ⟨_, rfl⟩
  rw [hbest] at ho2 hro
  rw [hsum] at hro ⊢
  have HRO := Lib.hid hro
  have hbl : best.length = n := by rw [hro.up.len]; exact HN.out
  have HBL := Lib.hid hbl
  obtain ⟨LA, lc, rfl, _, _, hls⟩ := ho2.slice i64cells_len
  rw [hbl] at hls ⊢
  have HLS := Lib.hid hls
  have h8 : n ≤ 8 := by rw [← HN.out]; exact regionsB_len hv
  have hsm := hro.small
  have hmx : 0 ≤ sum := by rw [hro.own]; exact hro.up.own_nonneg _ (Nat.le_refl _)
  clear ho2 hls hro hbest hsum hc hce hv hbl
  go_wp2
  go_loopg [11, 12, 13] n (fun gk s11 s12 s13 wr => ∃ (i : Nat) (NA : Option Addr) (nc : Nat), i ≤ n ∧ gk = n - i ∧ s13 = .int .i64 i ∧ s12 = .int .i64 (ownK xs best i) ∧ s11 = .slice NA n nc ∧ Region.Sl wr NA n (withLv xs (levMix best (xs.map Region.level) i)) ∧ Below w2.heap.size w2 wr)
  case atStart => exact ⟨0, VA, vc, Nat.zero_le _, rfl, rfl, rfl, rfl, by rw [levMix_zero, withLv_own]; exact HX2.out, Below.refl _ _⟩
  case round =>
    obtain ⟨i, NA, nc, hi, hgi, rfl, rfl, rfl, hns, hbw⟩ := hrel
    have HGI := Lib.hid hgi
    have HNS := Lib.hid hns
    have HBW := Lib.hid hbw
    clear hgi hns
    by_cases hin : i < n
    rotate_left
    · obtain rfl : i = n := by omega
      have HNF : Hid (Region.Sl wr NA i (withLv xs best)) := by
        have h := HNS.out
        rw [levMix_all (n := i) HBL.out (by rw [List.length_map]; exact HN.out)] at h
        exact h
      have hbm : ∀ l ∈ best, 1 ≤ l ∧ l ≤ 5 := fun l hl => levMix_ok HV.out HRO.out.up xs.length l (by rw [levMix_all (n := xs.length) (HBL.out.trans HN.out.symm) (by simp)]; exact hl)
      have hvb : regionsB (withLv xs best) = true := withLv_ok HV.out (HBL.out.trans HN.out.symm) hbm
      have HGB : Hid (∀ x ∈ withLv xs best, x.Good) := withLv_good HG.out hbm
      have HC3 : Hid (cntR (withLv xs best) = (compsR (withLv xs best) : Int) ∧ cntC (withLv xs best) = 0) := by rw [Hid, cntR, cntC, if_pos hvb, if_pos hvb]; exact ⟨rfl, rfl⟩
      have HC4 : Hid (cntR xs = (compsR xs : Int) ∧ cntC xs = 0) := by rw [Hid, cntR, cntC, if_pos HV.out, if_pos HV.out]; exact ⟨rfl, rfl⟩
      have hfew := HRO.out.few
      have hzero := HRO.out.zero
      have hown : ownK xs best i = sum := by rw [HRO.out.own, HN.out]
      rw [hown]
      clear hbm hvb hown
      go_wp2_with fail
      refine (specCountBulletins_any NA i nc (withLv xs best) wr HNF.out HGB.out).mono ?_
      rintro e w7 ⟨rfl, hb7⟩
      rw [HC3.out.1, HC3.out.2]
      have HB7 := Lib.hid (HBW.out.trans (hb7.mono HBW.out.size))
      clear hb7
      go_wp2_with fail
      refine (implCountBulletins_any VA i vc xs w7 (HX2.out.below HB7.out) HG.out).mono ?_
      rintro e w8 ⟨rfl, hb8⟩
      rw [HC4.out.1, HC4.out.2]
      have HBZ : Hid (Below w.heap.size w w8) := HB2.out.trans ((HB7.out.trans (hb8.mono HB7.out.size)).mono HB2.out.size)
      obtain ⟨C3, hC3⟩ : ∃ C, compsR (withLv xs best) = C := ⟨_, rfl⟩
      obtain ⟨C4, hC4⟩ : ∃ C, compsR xs = C := ⟨_, rfl⟩
      rw [hC3] at hfew ⊢
      rw [hC4] at hzero ⊢
      have he1 : decide (most < (C3 : Int)) = false := decide_eq_false (by omega)
      have he2 : decide ((C4 : Int) ≤ most) = (sum == 0) := by rw [Bool.eq_iff_iff, decide_eq_true_eq, beq_iff_eq]; exact hzero
      clear hb8 hC3 hC4 hfew hzero HB7 HBW HNS HNF HGB HC3 HC4 HX2 HB2
      go_wp2_with fail
      refine (drawJumps_any A1 n1 c1 x1 w8 (S1.out.below HBZ.out) G1.out).mono ?_
      rintro e w3 ⟨RA, rc, ys, least, rfl, hsl3, hgd3, hb3⟩
      obtain ⟨m, hm⟩ : ∃ m, ys.length = m := ⟨_, rfl⟩
      rw [hm] at hsl3 ⊢
      have HM := Lib.hid hm
      have HY3 := Lib.hid hsl3
      have HG3 := Lib.hid hgd3
      have HB3 := Lib.hid (HBZ.out.trans (hb3.mono HBZ.out.size))
      clear hsl3 hgd3 hb3 hm
      go_wp2_with fail
      refine (implJumpsOf_any least RA m rc ys w3 HY3.out HG3.out).mono ?_
      rintro e w4 ⟨v4, ps, rfl, hp4, hj4, hb4⟩
      have HB4 := Lib.hid (HB3.out.trans (hb4.mono HB3.out.size))
      have HY4 := Lib.hid (HY3.out.below hb4)
      obtain ⟨P, hP⟩ : ∃ P, ps.length = P := ⟨_, rfl⟩
      have HP := Lib.hid hP
      have HONE := Lib.hid hp4.one
      have HJ4 := Lib.hid hj4
      obtain ⟨JA, jc, rfl, _, _, hjs⟩ := hp4.own.slice PairR.cells_len
      rw [hP] at hjs ⊢
      have HJS := Lib.hid hjs
      have hP9 := hjs.le
      clear hb4 hp4 hj4 hP hjs
      by_cases hjc : jumC ys least = 0
      rotate_left
      · have hne : (jumC ys least == 0) = false := by simp [hjc]
        have hp0 : 0 = P := by rw [← HP.out]; have h := congrArg List.length HJ4.out; rw [jumL_no hjc, List.length_map] at h; exact h.symm
        subst hp0
        clear hjc
        go_wp2
        go_ret
        exact Ret.b rfl HB4.out
      obtain ⟨hv2, hu0, hu4, hjl⟩ := jumC_zero hjc
      have HLAW : Hid (ps.map PairR.val = lawTo ys least ys.length) := HJ4.out.trans hjl
      have HV2 := Lib.hid hv2
      have h8m : m ≤ 8 := by rw [← HM.out]; exact regionsB_len hv2
      rw [hjc]
      clear hjc hjl hv2
      go_wp2
      go_loopg [24, 25, 26] m (fun gk s24 s25 s26 wr => ∃ (i cnt : Nat), i ≤ m ∧ gk = m - i ∧ s25 = .int .i64 i ∧ s24 = .int .i64 cnt ∧ (lawTo ys least i).length = cnt ∧ Below w4.heap.size w4 wr)
      case atStart => exact ⟨0, 0, Nat.zero_le _, rfl, rfl, rfl, rfl, Below.refl _ _⟩
      case round =>
        obtain ⟨i, cnt, hi, hgi, rfl, rfl, hcnt, hbw⟩ := hrel
        have HGI := Lib.hid hgi
        have HCNT := Lib.hid hcnt
        clear hgi hcnt
        by_cases hin : i < m
        rotate_left
        · have him : i = m := by omega
          subst him
          have hcP : cnt = P := by rw [← HCNT.out, ← HP.out, ← HM.out, ← HLAW.out, List.length_map]
          subst hcP
          have HBF : Hid (Below w.heap.size w wr) := HB4.out.trans (hbw.mono HB4.out.size)
          go_wp2
          go_ret
          exact Ret.b (by simp) HBF.out
        obtain ⟨b1, o1, ⟨xi, xl, NA3, NN3, NC3, nr⟩, rfl, hb1, hx1, hi1, y0, y1, y2⟩ := HY4.out.at_ hin
        simp only [RegionR.val] at hx1 y0 y1 y2
        have HX1 := Lib.hid hx1
        have hxl := regionsB_level HV2.out (List.mem_of_getElem? hx1)
        simp only at hxl
        have HI1 : Hid (SliceOf w4 1 strcells NA3 NN3 nr) := hi1.1
        have HYC : Hid (∀ w', Below w4.heap.size w4 w' → w'.cell? ⟨b1, o1 + i * 3, none⟩ = some (.string xi) ∧ w'.cell? ⟨b1, o1 + i * 3 + 1, none⟩ = some (.int .i64 xl) ∧ w'.cell? ⟨b1, o1 + i * 3 + 2, none⟩ = some (.slice NA3 NN3 NC3) ∧ b1 < w'.heap.size) := fun w' h => ⟨(h.cell hb1).trans y0, (h.cell hb1).trans y1, (h.cell hb1).trans y2, Nat.lt_of_lt_of_le hb1 h.size⟩
        clear hx1 hi1 y0 y1 y2 hb1
        go_wp2
        go_loopg [24, 26] (m - (i + 1)) (fun gk s24 s26 wr => ∃ (q k cnt : Nat), k = i + 1 + q ∧ k ≤ m ∧ gk = m - k ∧ s26 = .int .i64 k ∧ s24 = .int .i64 cnt ∧ (lawPre ys least i ⟨xi, xl, nr⟩ q).length = cnt ∧ Below w4.heap.size w4 wr)
        case atStart => exact ⟨0, i + 1, cnt, rfl, by omega, rfl, by go_num, rfl, by rw [lawPre_zero]; exact HCNT.out, hbw⟩
        case round =>
          obtain ⟨q, k, cnt, hkq, hk, hgk, rfl, rfl, hcnt, hbw⟩ := hrel
          have HKQ := Lib.hid hkq
          have HGK := Lib.hid hgk
          have HCN := Lib.hid hcnt
          clear hgk hcnt hkq
          by_cases hkm : k < m
          rotate_left
          · have HCE : Hid ((lawTo ys least (i + 1)).length = cnt) := by
              rw [Hid, ← lawPre_all (q := q) HX1.out (by have := HKQ.out; have := HM.out; omega)]
              exact HCN.out
            go_wp2
            go_roundg (m - (i + 1))
            case measure => have := HGI.out; omega
            case rel => exact ⟨i + 1, cnt, by omega, rfl, by go_num, rfl, HCE.out, hbw⟩
          obtain ⟨⟨yi, yl, NA4, NN4, NC4, nr4⟩, hb2, hx2, _, z0, z1, _⟩ := HY4.out.at2 hkm
          simp only [RegionR.val] at hx2 z0 z1
          have HX2k : Hid (ys[i + 1 + q]? = some ⟨yi, yl, nr4⟩) := by rw [Hid, ← HKQ.out]; exact hx2
          have hyl := regionsB_level HV2.out (List.mem_of_getElem? hx2)
          simp only at hyl
          obtain ⟨y0, y1, y2, hb1⟩ := HYC.out wr hbw
          replace z0 := (hbw.cell hb2).trans z0
          replace z1 := (hbw.cell hb2).trans z1
          have hab : -4 ≤ xl - yl ∧ xl - yl ≤ 4 := by omega
          have hsub := fun (g : Sub wr) b o (h : b < wr.heap.size) => g.cell b o h
          have HIW := Lib.hid (HI1.out.below hbw)
          have HBW := Lib.hid hbw
          clear hx2 hb2 hbw
          cases hins : hasS nr yi
          · have HNB : Hid ((lawPre ys least i ⟨xi, xl, nr⟩ (q + 1)).length = cnt) := by
              rw [Hid, lawPre_no HX2k.out (by unfold lawB; rw [hins]; rfl)]
              exact HCN.out
            go_wp2_with fail
            refine wp_region_sub (by kernel_rfl) (by kernel_rfl) ?_
            repeat (go_big_quiet_step (exact Calls.sub_of_same_eq (b10Inside_any yi _ _ _ nr _ (HIW.out.below (Sub.below _))) (congrArg Value.bool hins)))
            refine wpQuiet_nil ?_
            intro wg hg
            have HBG := Lib.hid (HBW.out.trans (hg.mono HBW.out.size))
            clear hsub y0 y1 y2 z0 z1 hb1 hg hins
            go_wp2
            go_roundg (m - (k + 1))
            case measure => have := HGK.out; omega
            case rel => exact ⟨q + 1, k + 1, cnt, by have := HKQ.out; omega, by omega, rfl, by go_num, rfl, HNB.out, HBG.out⟩
          cases hge : decide (least ≤ absB (xl - yl))
          · have HNB : Hid ((lawPre ys least i ⟨xi, xl, nr⟩ (q + 1)).length = cnt) := by
              rw [Hid, lawPre_no HX2k.out (by unfold lawB; rw [hins, hge]; rfl)]
              exact HCN.out
            go_wp2_with fail
            refine wp_region_sub (by kernel_rfl) (by kernel_rfl) ?_
            repeat (go_big_quiet_step ((first | exact Calls.sub_of_same_eq (b10Inside_any yi _ _ _ nr _ (HIW.out.below (Sub.below _))) (congrArg Value.bool hins) | exact Calls.sub_of_same (b10Abs_any _ _ (by omega)))))
            refine wpQuiet_nil ?_
            intro wg hg
            have HBG := Lib.hid (HBW.out.trans (hg.mono HBW.out.size))
            clear hsub y0 y1 y2 z0 z1 hb1 hg hins hge
            go_wp2
            go_roundg (m - (k + 1))
            case measure => have := HGK.out; omega
            case rel => exact ⟨q + 1, k + 1, cnt, by have := HKQ.out; omega, by omega, rfl, by go_num, rfl, HNB.out, HBG.out⟩
          have hlb : lawB least ⟨xi, xl, nr⟩ ⟨yi, yl, nr4⟩ = true := by unfold lawB; rw [hins, hge]; rfl
          have HNB : Hid ((lawPre ys least i ⟨xi, xl, nr⟩ (q + 1)).length = cnt + 1) := by
            rw [Hid, lawPre_yes HX2k.out hlb, List.length_append, HCN.out]
            rfl
          obtain ⟨⟨pg, pa, pb⟩, hp, hpa, hpb⟩ := pair_here HLAW.out HX1.out HX2k.out hlb
          rw [HCN.out] at hp
          simp only at hpa hpb
          subst hpa hpb
          have hcP : cnt < P := by rw [← HP.out]; exact (List.getElem?_eq_some_iff.1 hp).1
          obtain ⟨b3, o3, p3, rfl, hb3, hp3, u0⟩ := pairs_at HJS.out hcP
          rw [hp] at hp3
          injection hp3 with hp3
          subst hp3
          have hone := HONE.out _ (List.mem_of_getElem? hp)
          have HPC : Hid (∀ w', Below w4.heap.size w4 w' → w'.cell? ⟨b3, o3 + cnt, none⟩ = some (.slice (some ⟨pg, 0, none⟩) 2 2) ∧ w'.cell? ⟨pg, 0, none⟩ = some (.string pa) ∧ w'.cell? ⟨pg, 1, none⟩ = some (.string pb) ∧ b3 < w'.heap.size ∧ pg < w'.heap.size) := fun w' h => ⟨(h.cell hb3).trans u0, (hone.below' h).cell 0, (hone.below' h).cell 1, Nat.lt_of_lt_of_le hb3 h.size, (hone.below' h).lt⟩
          clear hp hone hb3 u0 hlb
          go_wp2_with fail
          refine wp_region_sub (by kernel_rfl) (by kernel_rfl) ?_
          repeat (go_big_quiet_step ((first | exact Calls.sub_of_same_eq (b10Inside_any pb _ _ _ nr _ (HIW.out.below (Sub.below _))) (congrArg Value.bool hins) | exact Calls.sub_of_same (b10Abs_any _ _ (by omega)))))
          refine wpQuiet_nil ?_
          intro wg hg
          have HBG := Lib.hid (HBW.out.trans (hg.mono HBW.out.size))
          replace y0 := (hg.cell hb1).trans y0
          replace z0 := (hg.cell hb1).trans z0
          replace hb1 := Nat.lt_of_lt_of_le hb1 hg.size
          obtain ⟨u0, u1, u2, hb3, hpg⟩ := HPC.out wg HBG.out
          clear hsub y1 y2 z1 hg hins hge hab
          have hsub := fun (g : Sub wg) b o (h : b < wg.heap.size) => g.cell b o h
          have hcd : decide (P ≤ cnt) = false := decide_eq_false (by omega)
          have hs1 : (pa.toList == pa.toList) = true := beq_self_eq_true _
          have hs2 : (pb.toList == pb.toList) = true := beq_self_eq_true _
          go_wp2_with fail
          refine wp_region_sub (by kernel_rfl) (by kernel_rfl) ?_
          repeat (go_big_quiet_step (fail))
          refine wpQuiet_nil ?_
          intro wg hg
          have HBH := Lib.hid (HBG.out.trans (hg.mono HBG.out.size))
          clear hsub y0 z0 u0 u1 u2 hb3 hpg hb1 hg hcd hs1 hs2
          go_wp2
          go_roundg (m - (k + 1))
          case measure => have := HGK.out; omega
          case rel => exact ⟨q + 1, k + 1, cnt + 1, by have := HKQ.out; omega, by omega, rfl, by go_num, by go_num, HNB.out, HBH.out⟩
    obtain ⟨b1, o1, ⟨xi, xl, NA2, NN2, NC2, nr⟩, rfl, hb1, hx1, hi1, y0, y1, y2⟩ := (HX2.out.below HBW.out).at_ hin
    obtain ⟨b2, o2, l, rfl, hb2, hl1, z0⟩ := ints_at (HLS.out.below HBW.out) hin
    simp only [RegionR.val] at hx1 y0 y1 y2
    obtain ⟨⟨hlo, hl5, hl0⟩, hown, hmix, lm, hlm⟩ := lev_step HN.out HV.out HRO.out.up hin hx1 hl1
    simp only at hlo hl0 hown
    have HMIX := Lib.hid hmix
    have HOWN := Lib.hid hown
    have hmk : ∀ l ∈ levMix best (xs.map Region.level) i, 1 ≤ l ∧ l ≤ 5 := levMix_ok HV.out HRO.out.up i
    have hml : (levMix best (xs.map Region.level) i).length = xs.length := levMix_len (HBL.out.trans HN.out.symm) (by simp) (by rw [HN.out]; exact hi)
    have hok := ownK_le HV.out HRO.out.up i (by rw [HN.out]; exact hi)
    have hok0 := HRO.out.up.own_nonneg i (by rw [HN.out]; exact hi)
    have HSET : Hid (∀ W, Below wr.heap.size wr W → Calls Try.prog 8 #[.slice NA n nc, .string xi, .int .i64 l] W (RetP (fun v w' => ∃ u, v = .tuple #[u, .int .i64 0] ∧ Region.Own w' W.heap.size u (withLv (withLv xs (levMix best (xs.map Region.level) i)) (((withLv xs (levMix best (xs.map Region.level) i)).map Region.level).set i l))) W)) := fun W hW => specSetLevel_ok NA n nc (withLv xs (levMix best (xs.map Region.level) i)) W (HNS.out.below hW) (withLv_good HG.out hmk) (withLv_ok HV.out hml hmk) i ⟨xi, lm, nr⟩ hlm l ⟨by omega, hl5⟩
    rw [hmix] at HSET
    obtain ⟨NX, hNX⟩ : ∃ NX, withLv xs (levMix best (xs.map Region.level) (i + 1)) = NX := ⟨_, rfl⟩
    rw [hNX] at HSET
    have HNX := Lib.hid hNX
    have hnl : NX.length = n := by rw [← hNX, withLv_len (levMix_len (HBL.out.trans HN.out.symm) (by simp) (by rw [HN.out]; omega))]; exact HN.out
    have HNL := Lib.hid hnl
    have HSB : Hid (∀ w', Below wr.heap.size wr w' → w'.cell? ⟨b1, o1 + i * 3, none⟩ = some (.string xi) ∧ w'.cell? ⟨b2, o2 + i, none⟩ = some (.int .i64 l) ∧ Below wr.heap.size wr w') := fun w' h => ⟨(h.cell hb1).trans y0, (h.cell hb2).trans z0, h⟩
    have HSC : Hid (∀ w', Below wr.heap.size wr w' → w'.cell? ⟨b1, o1 + i * 3 + 1, none⟩ = some (.int .i64 xl) ∧ w'.cell? ⟨b2, o2 + i, none⟩ = some (.int .i64 l) ∧ b1 < w'.heap.size ∧ b2 < w'.heap.size) := fun w' h => ⟨(h.cell hb1).trans y1, (h.cell hb2).trans z0, Nat.lt_of_lt_of_le hb1 h.size, Nat.lt_of_lt_of_le hb2 h.size⟩
    clear hx1 hi1 y2 hl1 hmix hlm hmk hml hNX hnl
    go_upto_region 13 with fail
    refine wp_region_held_drew (S := (fun w' => w'.cell? ⟨b1, o1 + i * 3, none⟩ = some (.string xi) ∧ w'.cell? ⟨b2, o2 + i, none⟩ = some (.int .i64 l) ∧ Below wr.heap.size wr w')) (by kernel_rfl) (HSB.out _ (by (repeat (first | (with_reducible exact Below.refl _ _) | (with_reducible refine Below.drew ?_) | (with_reducible refine belowC_alc ?_ _) | (with_reducible refine belowC_step (by assumption) ?_) | (with_reducible refine belowC_low (by assumption) ?_))))) (fun hHeld => ?_)
    simp only [List.size_toArray, List.length_cons, List.length_nil, Nat.zero_add, Nat.reduceAdd]
    refine wpAnyH_take (i := 0) (oi := _) (v := ?_) rfl (by kernel_rfl) (by kernel_rfl) (by kernel_rfl) (fun _ _ _ h => h) (Or.inl ⟨by rfl, ?_⟩) (by assumption) ?_
    rotate_left
    · intro w hSw; (try dsimp only at hSw); go_simp; (try with_reducible rfl)
    simp only [List.getElem_toArray, List.getElem_cons_zero, Act.put, List.setIfInBounds_toArray, List.set_cons_zero, List.set_cons_succ]
    refine wpAnyH_take (i := 1) (oi := _) (v := ?_) rfl (by kernel_rfl) (by kernel_rfl) (by kernel_rfl) (fun _ _ _ h => h) (Or.inl ⟨by rfl, ?_⟩) (by assumption) ?_
    rotate_left
    · intro w hSw; (try dsimp only at hSw); go_simp; (try with_reducible rfl)
    simp only [List.getElem_toArray, List.getElem_cons_zero, List.getElem_cons_succ, Act.put, List.setIfInBounds_toArray, List.set_cons_zero, List.set_cons_succ]
    refine wpAnyH_take (i := 2) (oi := _) (v := ?_) rfl (by kernel_rfl) (by kernel_rfl) (by kernel_rfl) (fun _ _ _ h => h) (Or.inl ⟨by rfl, ?_⟩) (by assumption) ?_
    rotate_left
    · intro w hSw; (try dsimp only at hSw); go_simp; (try with_reducible rfl)
    simp only [List.getElem_toArray, List.getElem_cons_zero, List.getElem_cons_succ, Act.put, List.setIfInBounds_toArray, List.set_cons_zero, List.set_cons_succ]
    refine wpAnyH_take (i := 3) (oi := _) (v := ?_) rfl (by kernel_rfl) (by kernel_rfl) (by kernel_rfl) (fun _ _ _ h => h) (Or.inl ⟨by rfl, ?_⟩) (by assumption) ?_
    rotate_left
    · intro w hSw; (try dsimp only at hSw); go_simp; (try with_reducible rfl)
    simp only [List.getElem_toArray, List.getElem_cons_zero, List.getElem_cons_succ, Act.put, List.setIfInBounds_toArray, List.set_cons_zero, List.set_cons_succ]
    refine wpAnyH_take (i := 4) (oi := _) (v := ?_) rfl (by kernel_rfl) (by kernel_rfl) (by kernel_rfl) (fun _ _ _ h => h) (Or.inl ⟨by rfl, ?_⟩) (by assumption) ?_
    rotate_left
    · intro w hSw; (try dsimp only at hSw); go_simp; (try with_reducible rfl)
    simp only [List.getElem_toArray, List.getElem_cons_zero, List.getElem_cons_succ, Act.put, List.setIfInBounds_toArray, List.set_cons_zero, List.set_cons_succ]
    refine wpAnyH_take (i := 5) (oi := _) (v := ?_) rfl (by kernel_rfl) (by kernel_rfl) (by kernel_rfl) (fun _ _ _ h => h) (Or.inl ⟨by rfl, ?_⟩) (by assumption) ?_
    rotate_left
    · intro w hSw; (try dsimp only at hSw); go_simp; (try with_reducible rfl)
    simp only [List.getElem_toArray, List.getElem_cons_zero, List.getElem_cons_succ, Act.put, List.setIfInBounds_toArray, List.set_cons_zero, List.set_cons_succ]
    refine wpAnyH_take (i := 6) (oi := _) (v := ?_) rfl (by kernel_rfl) (by kernel_rfl) (by kernel_rfl) (fun _ _ _ h => h) (Or.inl ⟨by rfl, ?_⟩) (by assumption) ?_
    rotate_left
    · intro w hSw; (try dsimp only at hSw); go_simp; (try with_reducible rfl)
    simp only [List.getElem_toArray, List.getElem_cons_zero, List.getElem_cons_succ, Act.put, List.setIfInBounds_toArray, List.set_cons_zero, List.set_cons_succ]
    refine wpAnyH_take (i := 7) (oi := _) (v := ?_) rfl (by kernel_rfl) (by kernel_rfl) (by kernel_rfl) (fun _ _ _ h => h) (Or.inl ⟨by rfl, ?_⟩) (by assumption) ?_
    rotate_left
    · intro w hSw; (try dsimp only at hSw); go_simp; (try with_reducible rfl)
    simp only [List.getElem_toArray, List.getElem_cons_zero, List.getElem_cons_succ, Act.put, List.setIfInBounds_toArray, List.set_cons_zero, List.set_cons_succ]
    refine wpAnyH_take (i := 8) (oi := _) (v := ?_) rfl (by kernel_rfl) (by kernel_rfl) (by kernel_rfl) (fun _ _ _ h => h) (Or.inl ⟨by rfl, ?_⟩) (by assumption) ?_
    rotate_left
    · intro w hSw; (try dsimp only at hSw); go_simp; (try with_reducible rfl)
    simp only [List.getElem_toArray, List.getElem_cons_zero, List.getElem_cons_succ, Act.put, List.setIfInBounds_toArray, List.set_cons_zero, List.set_cons_succ]
    refine wpAnyH_take (i := 9) (oi := _) (v := ?_) rfl (by kernel_rfl) (by kernel_rfl) (by kernel_rfl) (fun _ _ _ h => h) (Or.inl ⟨by rfl, ?_⟩) (by assumption) ?_
    rotate_left
    · intro w hSw; (try dsimp only at hSw); go_simp; (try with_reducible rfl)
    simp only [List.getElem_toArray, List.getElem_cons_zero, List.getElem_cons_succ, Act.put, List.setIfInBounds_toArray, List.set_cons_zero, List.set_cons_succ]
    refine wpAnyH_ready (rs := [10]) (by kernel_rfl) (by simp) ?_
    refine AllReadyH.cons (o := _) rfl (fun K hK => ?_) AllReadyH.nil
    simp only [List.getElem_toArray, List.getElem_cons_zero, List.getElem_cons_succ]
    go_simp
    (go_at_call 8; (with_reducible refine Calls.mono (HSET.out _ (by (repeat (first | (with_reducible exact Below.refl _ _) | (with_reducible refine Below.drew ?_) | (with_reducible refine belowC_alc ?_ _) | (with_reducible refine belowC_step (by assumption) ?_) | (with_reducible refine belowC_low (by assumption) ?_))))) ?_); rintro e w5 ⟨_, rfl, ⟨u, rfl, ho5⟩, hb5⟩)
    refine hK.out _ _ (HSB.out _ (by (repeat (first | (with_reducible exact Below.refl _ _) | (with_reducible refine Below.drew ?_) | (with_reducible refine belowC_alc ?_ _) | (with_reducible refine belowC_step (by assumption) ?_) | (with_reducible refine belowC_low (by assumption) ?_))))) (fun hHeld2 => ?_)
    clear hK K
    try simp only [List.getElem_toArray, List.getElem_cons_zero, List.getElem_cons_succ, Act.put, List.setIfInBounds_toArray, List.set_cons_zero, List.set_cons_succ]
    refine wpAnyH_take (i := 11) (oi := _) (v := ?_) rfl (by kernel_rfl) (by kernel_rfl) (by kernel_rfl) (fun _ _ _ h => h) (Or.inl ⟨by rfl, ?_⟩) (by assumption) ?_
    rotate_left
    · intro w hSw; (try dsimp only at hSw); go_simp; (try with_reducible rfl)
    simp only [List.getElem_toArray, List.getElem_cons_zero, List.getElem_cons_succ, Act.put, List.setIfInBounds_toArray, List.set_cons_zero, List.set_cons_succ]
    refine wpAnyH_take (i := 12) (oi := _) (v := ?_) rfl (by kernel_rfl) (by kernel_rfl) (by kernel_rfl) (fun _ _ _ h => h) (Or.inl ⟨by rfl, ?_⟩) (by assumption) ?_
    rotate_left
    · intro w hSw; (try dsimp only at hSw); go_simp; (try with_reducible rfl)
    simp only [List.getElem_toArray, List.getElem_cons_zero, List.getElem_cons_succ, Act.put, List.setIfInBounds_toArray, List.set_cons_zero, List.set_cons_succ]
    refine wpAnyH_take (i := 13) (oi := _) (v := ?_) rfl (by kernel_rfl) (by kernel_rfl) (by kernel_rfl) (fun _ _ _ h => h) (Or.inl ⟨by rfl, ?_⟩) (by assumption) ?_
    rotate_left
    · intro w hSw; (try dsimp only at hSw); go_simp; (try with_reducible rfl)
    simp only [List.getElem_toArray, List.getElem_cons_zero, List.getElem_cons_succ, Act.put, List.setIfInBounds_toArray, List.set_cons_zero, List.set_cons_succ]
    refine wpAnyH_take (i := 14) (oi := _) (v := ?_) rfl (by kernel_rfl) (by kernel_rfl) (by kernel_rfl) (fun _ _ _ h => h) (Or.inl ⟨by rfl, ?_⟩) (by assumption) ?_
    rotate_left
    · intro w hSw; (try dsimp only at hSw); go_simp; (try with_reducible rfl)
    simp only [List.getElem_toArray, List.getElem_cons_zero, List.getElem_cons_succ, Act.put, List.setIfInBounds_toArray, List.set_cons_zero, List.set_cons_succ]
    refine wpAnyH_take (i := 15) (oi := _) (v := ?_) rfl (by kernel_rfl) (by kernel_rfl) (by kernel_rfl) (fun _ _ _ h => h) (Or.inl ⟨by rfl, ?_⟩) (by assumption) ?_
    rotate_left
    · intro w hSw; (try dsimp only at hSw); go_simp; (try with_reducible rfl)
    simp only [List.getElem_toArray, List.getElem_cons_zero, List.getElem_cons_succ, Act.put, List.setIfInBounds_toArray, List.set_cons_zero, List.set_cons_succ]
    refine wpAnyH_done (by kernel_rfl) ?_ _
    have HB5 : Hid (Below wr.heap.size wr w5) := hHeld2.2.2
    obtain ⟨UA, uc, rfl, _, _, hu⟩ := ho5.slice
    rw [HNL.out] at hu ⊢
    have HU := Lib.hid hu
    have HW5 : Hid (Below w2.heap.size w2 w5) := HBW.out.trans (HB5.out.mono HBW.out.size)
    obtain ⟨y1, z0, hb1, hb2⟩ := HSC.out w5 HB5.out
    clear hHeld hHeld2 y0 ho5 hb5 hu
    have hd1 : decide (l < xl) = false := decide_eq_false (by omega)
    have hsub := fun (g : Sub w5) b o (h : b < w5.heap.size) => g.cell b o h
    go_wp2_with fail
    refine wp_region_sub (by kernel_rfl) (by kernel_rfl) ?_
    repeat (go_big_quiet_step (fail))
    refine wpQuiet_nil ?_
    intro wg hg
    have HU2 := Lib.hid (HU.out.below hg)
    have HW6 := Lib.hid (HW5.out.trans (hg.mono HW5.out.size))
    have y1 := (hg.cell hb1).trans y1
    have z0 := (hg.cell hb2).trans z0
    have hb1 := Nat.lt_of_lt_of_le hb1 hg.size
    have hb2 := Nat.lt_of_lt_of_le hb2 hg.size
    clear hsub hd1 hg
    have hsub := fun (g : Sub wg) b o (h : b < wg.heap.size) => g.cell b o h
    go_wp2_with fail
    refine wp_region_sub (by kernel_rfl) (by kernel_rfl) ?_
    repeat (go_big_quiet_step (fail))
    refine wpQuiet_nil ?_
    intro wg hg
    have HU3 := Lib.hid (HU2.out.below hg)
    have HW7 := Lib.hid (HW6.out.trans (hg.mono HW6.out.size))
    clear hsub hg y1 z0 hb1 hb2
    go_wp2
    go_roundg (n - (i + 1))
    case measure => have := HGI.out; omega
    case rel => exact ⟨i + 1, UA, uc, by omega, rfl, by go_num, by rw [HOWN.out], rfl, by rw [HNX.out]; exact HU3.out, HW7.out⟩

end Go.Proofs.Ytpibiieibofggaa
