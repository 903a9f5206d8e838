/- The walk of the law FnDams: it returns true. The given statement on the law FnDams, from its walk: for every input that can be read the law returns true, and each argument reads behind the call as before. No condition. -/
import Derived.Test.YthlgfmdlecdchaaR8Grid
import Derived.Test.YthlgfmdlecdchaaR8Mass
import Derived.Test.YthlgfmdlecdchaaR8Asset
import Derived.Test.YthlgfmdlecdchaaR8
import Derived.Test.YthlgfmdlecdchaaMTail
import Derived.Test.YthlgfmdlecdchaaRunC
import Derived.Test.YthlgfmdlecdchaaDamI
import Derived.Test.YthlgfmdlecdchaaExposeT
import Derived.Deep.RegionHeld3
import Derived.Test.YthlgfmdlecdchaaRows
import Derived.ProofKit
import Derived.OpenShut
import Derived.ChangeOld
import Derived.Below
namespace Go.Proofs.Ythlgfmdlecdchaa
open Go.RowKit

theorem drawn_raise {g : Grid} {ms : List Int} {b y : Int} {c : Nat} (h : DrawnM g ms) (hb : 0 ≤ b) (hy : g.heights[c]? = some y) (hm : y + b ≤ 5000) : DrawnM (raiseG g c b) ms :=
  ⟨(raise_ok (h.run (fr := 1) (by omega) (by omega)).2 hb hy hm).grid, by rw [h.len]; simp [raiseG], h.bd⟩
theorem reachA_run {g : Grid} {ms : List Int} {fr : Int} (h : runC g ms fr = 0) : reachA g ms fr = reachL g ms fr := by
  unfold reachA; rw [if_pos h]
theorem raise_at {g p : GridR} {c k : Nat} {y b : Int} (hv : p.val = raiseG g.val c b) (hy : g.heights[k]? = some y) : p.heights[k]? = some (if k = c then y + b else y) := by
  have h1 : p.heights = (raiseG g.val c b).heights := congrArg Grid.heights hv
  have hl := (List.getElem?_eq_some_iff.1 hy).1
  rw [h1]
  unfold raiseG
  by_cases e : k = c
  · subst e
    rw [if_pos rfl]
    show (g.heights.set k (g.heights.getD k 0 + b))[k]? = _
    rw [List.getElem?_set_self hl, List.getD_eq_getElem?_getD, hy]
    rfl
  · rw [if_neg e]
    show (g.heights.set c _)[k]? = _
    rw [List.getElem?_set_ne (fun h => e h.symm)]
    exact hy
theorem raise_len {g p : GridR} {c : Nat} {b : Int} (hv : p.val = raiseG g.val c b) : p.heights.length = g.heights.length := by
  have h1 : p.heights = (raiseG g.val c b).heights := congrArg Grid.heights hv
  rw [h1]
  simp [raiseG, GridR.val]
/-- How many of the first k numbers are zero, as the law needs it. -/
structure FreeTo (ms : List Int) (k f : Nat) : Prop where
  le : f ≤ k
  none : f = 0 → ∀ j m, j < k → ms[j]? = some m → m ≠ 0
  some : 0 < f → ∃ j : Nat, j < k ∧ ms[j]? = .some 0
theorem FreeTo.zero (ms : List Int) : FreeTo ms 0 0 := ⟨Nat.le_refl _, fun _ j m h => absurd h (by omega), fun h => absurd h (by omega)⟩
theorem FreeTo.yes {ms : List Int} {k f : Nat} (h : FreeTo ms k f) (hm : ms[k]? = .some 0) : FreeTo ms (k + 1) (f + 1) := ⟨by have := h.le; omega, fun e => absurd e (by omega), fun _ => ⟨k, by omega, hm⟩⟩
theorem FreeTo.no {ms : List Int} {k f : Nat} {m : Int} (h : FreeTo ms k f) (hm : ms[k]? = .some m) (h0 : m ≠ 0) : FreeTo ms (k + 1) f :=
  ⟨by have := h.le; omega, fun e j x hj hx => by
    by_cases e2 : j = k
    · subst e2; rw [hm] at hx; injection hx with hx; rw [← hx]; exact h0
    · exact h.none e j x (by omega) hx, fun hf => by obtain ⟨j, h1, h2⟩ := h.some hf; exact ⟨j, by omega, h2⟩⟩
set_option maxRecDepth 100000 in
set_option maxHeartbeats 2000000 in
theorem walk_FnDams (A0 : Option Addr) (n0 c0 : Nat) (x0 : List Int) (A1 : Option Addr) (n1 c1 : Nat) (x1 : List Int) (w : World) (s0 : SliceOf w 1 u8cells A0 n0 x0) (g0 : ∀ x ∈ x0, 0 ≤ x ∧ x ≤ 255) (s1 : SliceOf w 1 u8cells A1 n1 x1) (g1 : ∀ x ∈ x1, 0 ≤ x ∧ x ≤ 255) :
    Calls Try.prog 5 #[.slice A0 n0 c0, .slice A1 n1 c1] w (Ret (.bool true) w) := by
  have S0 := Lib.hid s0
  have S1 := Lib.hid s1
  have G0 := Lib.hid g0
  have G1 := Lib.hid g1
  have hn0 := s0.le
  have hn1 := s1.le
  clear s0 s1 g0 g1
  cases hlong : (decide (1048576 < n0) || decide (1048576 < n1))
  rotate_left
  · go_enter Try.func5, Try.ntmps5
    go_wp2_with (go_at_call 6; refine (r8Long_any A0 A1 n0 c0 n1 c1 _ hn0 hn1).mono ?_; rintro e w' ⟨rfl, rfl⟩; rw [hlong])
    go_ret
    exact Ret.b rfl (Below.refl _ _)
  go_enter Try.func5, Try.ntmps5
  go_wp2_with fail
  refine (r8Long_any A0 A1 n0 c0 n1 c1 _ hn0 hn1).mono ?_
  rintro e w' ⟨rfl, rfl⟩
  rw [hlong]
  clear hlong
  go_wp2_with fail
  refine (r8Grid_any A0 n0 c0 x0 w S0.out G0.out).mono ?_
  rintro e w1 ⟨g, rfl, hgi, hgb, hb1, hlow⟩
  obtain ⟨X, hX⟩ : ∃ X, w1.heap.size = X := ⟨_, rfl⟩
  obtain ⟨wb, hwb⟩ : ∃ wb, w1.alloc (.cells #[.int .i64 g.rows, .int .i64 g.columns, .int .i64 g.size, .slice g.heightsA g.heightsN g.heightsC] 26) = wb := ⟨_, rfl⟩
  have hbb : Below w1.heap.size w1 wb := by rw [← hwb]; exact (Below.refl _ _).alloc (Nat.le_refl _) _
  have HBX : Hid (BoxD X g wb) := ⟨by rw [← hwb, ← hX]; exact Own.new _ _ _, hgi.below hbb⟩
  have HBW : Hid (Below w.heap.size w wb) := hb1.trans (hbb.mono hb1.size)
  have HS1 := Lib.hid ((S1.out.below hb1).below hbb)
  have HGB := Lib.hid hgb
  have HLOW := Lib.hid hlow
  have hglen : g.val.heights.length = g.heightsN := hgi.1.len
  have hn64 : 1 ≤ g.heightsN ∧ g.heightsN ≤ 64 := by
    have h := gridB_parts hgb
    have h2 := (mul_i64 h.1 h.2.1).2
    have h3 := h.2.2.2.1
    rw [hglen] at h3
    omega
  obtain ⟨hn1', hn64'⟩ := hn64
  have HGL := Lib.hid hglen
  obtain ⟨ga, go, hgA, _⟩ := hts_at hgi hgb (show 0 < g.heightsN by omega)
  have HGA := Lib.hid hgA
  obtain ⟨y0, y1, y2, y3, ly⟩ := HBX.out.cells
  clear hb1 hbb hgi hgb hglen hgA hlow
  go_wp2_with fail
  try rw [hwb]
  clear hwb hX y0 y1 y2 y3 ly
  refine (r8Masses_any g A1 n1 c1 x1 wb HS1.out G1.out hn64').mono ?_
  rintro e w2 ⟨v, ms, rfl, hown, hml, hmb, hb2⟩
  obtain ⟨MA, mc, rfl, hmc, _, hmsl⟩ := hown.slice i64cells_len
  rw [hml] at hmsl hmc ⊢
  obtain ⟨ma, mo, _, rfl, _, _⟩ := ints_at hmsl (show 0 < g.heightsN by omega)
  have HM2 := Lib.hid hmsl
  have HX2 := Lib.hid (HBX.out.grow hb2)
  have HB2 := Lib.hid (HBW.out.trans (hb2.mono HBW.out.size))
  have HS2 := Lib.hid (HS1.out.below hb2)
  have HDR : Hid (DrawnM g.val ms) := ⟨HGB.out, hml.trans HGL.out.symm, hmb⟩
  have HML := Lib.hid hml
  have HMB := Lib.hid hmb
  obtain ⟨y0, y1, y2, y3, ly⟩ := HX2.out.cells
  clear hown hml hmb hb2 hmsl
  go_wp2_with fail
  clear y0 y1 y2 y3 ly
  refine (r8Assets_any A1 n1 c1 x1 g w2 HS2.out G1.out HX2.out.gi hn1' hn64').mono ?_
  rintro e w3 ⟨v, xs, rfl, hxv, hxg, ⟨AA, ac, rfl, hxs⟩, hb3⟩
  obtain ⟨an, han⟩ : ∃ an, xs.length = an := ⟨_, rfl⟩
  rw [han] at hxs ⊢
  have hasl := hxs.le
  have HAS : Hid (assetsB g.val xs = true) := by
    rw [Hid]; unfold assetsB
    rw [Bool.and_eq_true, HGL.out]
    exact ⟨HGB.out, hxv⟩
  have HXG := Lib.hid hxg
  have HA3 := Lib.hid hxs
  have HM3 := Lib.hid (HM2.out.below hb3)
  have HX3 := Lib.hid (HX2.out.grow hb3)
  have HB3 := Lib.hid (HB2.out.trans (hb3.mono HB2.out.size))
  have HS3 := Lib.hid (HS2.out.below hb3)
  clear hxv hxg han hxs hb3
  go_wp2_with fail
  refine (r8At_any A1 n1 c1 x1 60 100 w3 HS3.out G1.out (by omega) (by omega) (by omega)).mono ?_
  rintro e w' ⟨fq, rfl, hfq, rfl⟩
  obtain ⟨fr, hfr⟩ : ∃ fr : Int, 50 + 10 * (fq : Int) = fr := ⟨_, rfl⟩
  have hf1 : 1 ≤ fr := by omega
  have hf2 : fr ≤ 5000 := by omega
  go_wp2_with fail
  try rw [hfr]
  clear hfr hfq
  refine (r8At_any A1 n1 c1 x1 61 40 w3 HS3.out G1.out (by omega) (by omega) (by omega)).mono ?_
  rintro e w' ⟨b, rfl, hb40, rfl⟩
  have HH5 : Hid (∀ y ∈ g.val.heights, y + (b : Int) ≤ 5000) := fun y hy => by have := HLOW.out y hy; omega
  have hdams := dams HDR.out HAS.out hf1 hf2 (show (0 : Int) ≤ (b : Int) by omega) (show (b : Int) ≤ 100 by omega) HH5.out
  obtain ⟨y0, y1, y2, y3, ly⟩ := HX3.out.cells
  go_wp2_with fail
  clear y0 y1 y2 y3 ly
  refine (implBestDam_any g AA an ac xs _ g.heightsN mc ms fr (b : Int) w3 HX3.out.gi HA3.out HXG.out HM3.out).mono ?_
  rintro e w4 ⟨rfl, hb4⟩
  obtain ⟨DA, hDA⟩ : ∃ DA, damA g.val xs ms fr (b : Int) = DA := ⟨_, rfl⟩
  obtain ⟨DV, hDV⟩ : ∃ DV, damV g.val xs ms fr (b : Int) = DV := ⟨_, rfl⟩
  obtain ⟨DK, hDK⟩ : ∃ DK, damK g.val xs ms fr (b : Int) = DK := ⟨_, rfl⟩
  rw [hDA, hDV, hDK] at hdams
  rw [hDA, hDV, hDK]
  have HDAMS := Lib.hid hdams
  have HA4 := Lib.hid (HA3.out.below hb4)
  have HM4 := Lib.hid (HM3.out.below hb4)
  have HX4 := Lib.hid (HX3.out.grow hb4)
  have HB4 := Lib.hid (HB3.out.trans (hb4.mono HB3.out.size))
  have HS4 := Lib.hid (HS3.out.below hb4)
  clear hdams hDA hDV hDK hb4
  obtain ⟨y0, y1, y2, y3, ly⟩ := HX4.out.cells
  go_wp2_with fail
  refine (r8At_any A1 n1 c1 x1 62 g.heightsN w4 HS4.out G1.out (by omega) (by omega) (by omega)).mono ?_
  rintro e w' ⟨cl, rfl, hcl, rfl⟩
  obtain ⟨yc, hyc⟩ : ∃ y, g.heights[cl]? = some y := ⟨_, List.getElem?_eq_getElem (by have := HGL.out; have h2 : g.heights.length = g.heightsN := this; omega)⟩
  have HYC := Lib.hid hyc
  have hyc5 : yc + (b : Int) ≤ 5000 := HH5.out yc (List.mem_of_getElem? hyc)
  clear hyc
  go_wp2_with fail
  clear y0 y1 y2 y3 ly
  refine (implRaiseCell_ok g cl (b : Int) yc w4 HX4.out.gi HGB.out hn64' HYC.out (by omega) (by omega) hyc5).mono ?_
  rintro e w5 ⟨p, rfl, hpi, hpv, hb5⟩
  obtain ⟨Y, hY⟩ : ∃ Y, w5.heap.size = Y := ⟨_, rfl⟩
  obtain ⟨wp, hwp⟩ : ∃ wp, w5.alloc (.cells #[.int .i64 p.rows, .int .i64 p.columns, .int .i64 p.size, .slice p.heightsA p.heightsN p.heightsC] 26) = wp := ⟨_, rfl⟩
  have hbp : Below w5.heap.size w5 wp := by rw [← hwp]; exact (Below.refl _ _).alloc (Nat.le_refl _) _
  have HP6 : Hid (BoxD Y p wp) := ⟨by rw [← hwp, ← hY]; exact Own.new _ _ _, hpi.below hbp⟩
  have HX6 := Lib.hid ((HX4.out.grow hb5).grow hbp)
  have HA6 := Lib.hid ((HA4.out.below hb5).below hbp)
  have HM6 := Lib.hid ((HM4.out.below hb5).below hbp)
  have HB6 : Hid (Below w.heap.size w wp) := (HB4.out.trans (hb5.mono HB4.out.size)).trans (hbp.mono (Nat.le_trans HB4.out.size hb5.size))
  have HPV := Lib.hid hpv
  have HPN : Hid (p.heightsN = g.heightsN) := by
    have h1 := hpi.1.len
    have h2 := raise_len hpv
    have h3 : g.heights.length = g.heightsN := HGL.out
    rw [Hid]; omega
  have hpne : ((p.heightsN : Int) != (g.heightsN : Int)) = false := by rw [HPN.out]; simp
  obtain ⟨pa, po, _, hpA, _, _, _⟩ := ints_at hpi.1 (show 0 < p.heightsN by rw [HPN.out]; omega)
  have HPA := Lib.hid hpA
  obtain ⟨y0, y1, y2, y3, ly⟩ := HX6.out.cells
  obtain ⟨z0, z1, z2, z3, lz⟩ := HP6.out.cells
  clear hpi hpv hb5 hbp hpA
  go_wp2
  clear hwp hY hpne
  have hkeep : ∀ k, k < g.heightsN → k < p.heightsN := fun k hk => by rw [HPN.out]; exact hk
  go_loopg [16] g.heightsN (fun gk i wr => ∃ k : Nat, k ≤ g.heightsN ∧ gk = g.heightsN - k ∧ i = .int .i64 k ∧ wp = wr)
  case atStart => exact ⟨0, Nat.zero_le _, rfl, rfl, rfl⟩
  case round =>
    obtain ⟨k, hk, hgk, rfl, rfl⟩ := hrel
    have Hgk := Lib.hid hgk
    clear hgk
    by_cases hlt : k < g.heightsN
    · have hkp := hkeep k hlt
      rw [HGA.out] at y3
      rw [HPA.out] at z3
      obtain ⟨y, hy, ycell, ylt⟩ := HX6.out.ht HGA.out hlt
      obtain ⟨z, hz, zcell, zlt⟩ := HP6.out.ht HPA.out hkp
      have hz2 := raise_at HPV.out hy
      rw [hz] at hz2
      injection hz2 with hz2
      have hy16 : y ≤ 1600 := HLOW.out y (List.mem_of_getElem? hy)
      have hy0 : 0 ≤ y := (heights_bd (g := g.val) HGB.out hy).1
      by_cases hkc : k = cl
      · have hq : ((k : Int) == (cl : Int)) = true := by simp [hkc]
        rw [if_pos hkc] at hz2
        subst hz2
        have hne : ((y + (b : Int)) != (y + (b : Int))) = false := by simp
        clear hy hz hkc
        go_wp2
        go_roundg (g.heightsN - (k + 1))
        case measure => have := Hgk.out; omega
        case rel => exact ⟨k + 1, by omega, rfl, by go_num, rfl⟩
      · have hq : ((k : Int) == (cl : Int)) = false := by simp; omega
        rw [if_neg hkc] at hz2
        subst hz2
        have hne : (z != z) = false := by simp
        clear hy hz hkc
        go_wp2
        go_roundg (g.heightsN - (k + 1))
        case measure => have := Hgk.out; omega
        case rel => exact ⟨k + 1, by omega, rfl, by go_num, rfl⟩
    have hkn : k = g.heightsN := by omega
    have hkm : ¬ ((k : Int) < (g.heightsN : Int)) := by omega
    clear hkn hk
    go_wp2
    clear y0 y1 y2 y3 ly z0 z1 z2 z3 lz hkm hkeep
    go_loopg [18, 19] g.heightsN (fun gk s18 s19 wr => ∃ k f : Nat, k ≤ g.heightsN ∧ gk = g.heightsN - k ∧ s18 = .int .i64 f ∧ s19 = .int .i64 k ∧ FreeTo ms k f ∧ wp = wr)
    case atStart => exact ⟨0, 0, Nat.zero_le _, rfl, rfl, rfl, FreeTo.zero ms, rfl⟩
    case round =>
      obtain ⟨k, f, hk, hgk, rfl, rfl, hfr2, rfl⟩ := hrel
      have Hgk := Lib.hid hgk
      have HF := Lib.hid hfr2
      have hfk := hfr2.le
      clear hgk hfr2
      by_cases hlt : k < g.heightsN
      · obtain ⟨m, hm, mcell, mlt⟩ := intsD HM6.out hlt
        have HMK := Lib.hid hm
        clear hm
        by_cases hm0 : m = 0
        · have hq : (m == 0) = true := by simp [hm0]
          have HF2 := Lib.hid (HF.out.yes (by rw [HMK.out, hm0]))
          clear hm0
          go_wp2
          go_roundg (g.heightsN - (k + 1))
          case measure => have := Hgk.out; omega
          case rel => exact ⟨k + 1, f + 1, by omega, rfl, by go_num, by go_num, HF2.out, rfl⟩
        · have hq : (m == 0) = false := by simp [hm0]
          have HF2 := Lib.hid (HF.out.no HMK.out hm0)
          clear hm0
          go_wp2
          go_roundg (g.heightsN - (k + 1))
          case measure => have := Hgk.out; omega
          case rel => exact ⟨k + 1, f, by omega, rfl, rfl, by go_num, HF2.out, rfl⟩
      have hkn : k = g.heightsN := by omega
      have hkm : ¬ ((k : Int) < (g.heightsN : Int)) := by omega
      have HKN := Lib.hid hkn
      clear hkn hk
      rcases HDAMS.out with ⟨hK, hall⟩ | ⟨hK, d0, hA, hd0, hm0, hV, hmin⟩
      · have hf0 : f = 0 := by
          by_cases e : 0 < f
          · obtain ⟨j, hj, hmj⟩ := HF.out.some e
            have := hall 0 (List.mem_of_getElem? hmj)
            omega
          · omega
        subst hK
        subst hf0
        go_wp2
        go_ret
        exact Ret.b rfl HB6.out
      have hfp : 0 < f := by
        by_cases e : f = 0
        · exact absurd rfl (HF.out.none e d0 0 (by rw [HKN.out, ← HML.out]; exact hd0) hm0)
        · omega
      subst hK
      subst hA
      have hdn : d0 < g.heightsN := by rw [← HML.out]; exact hd0
      obtain ⟨m, hm, mcell, mlt⟩ := intsD HM6.out hdn
      rw [hm0] at hm
      injection hm with hm
      subst hm
      obtain ⟨yd, hyd⟩ : ∃ y, g.heights[d0]? = some y := ⟨_, List.getElem?_eq_getElem (by have h2 : g.heights.length = g.heightsN := HGL.out; omega)⟩
      have HYD := Lib.hid hyd
      have hyd5 : yd + (b : Int) ≤ 5000 := HH5.out yd (List.mem_of_getElem? hyd)
      have HMIN := Lib.hid hmin
      have HV := Lib.hid hV
      clear hyd hm0 hd0 hV hmin
      obtain ⟨y0, y1, y2, y3, ly⟩ := HX6.out.cells
      go_wp2_with fail
      clear y0 y1 y2 y3 ly mcell hkm
      refine (specRaiseCell_ok g d0 (b : Int) yd wp HX6.out.gi HGB.out hn64' HYD.out (by omega) (by omega) hyd5).mono ?_
      rintro e w7 ⟨o, rfl, hoi, hov, hb7⟩
      obtain ⟨Z, hZ⟩ : ∃ Z, w7.heap.size = Z := ⟨_, rfl⟩
      obtain ⟨wo, hwo⟩ : ∃ wo, w7.alloc (.cells #[.int .i64 o.rows, .int .i64 o.columns, .int .i64 o.size, .slice o.heightsA o.heightsN o.heightsC] 26) = wo := ⟨_, rfl⟩
      have hbo : Below w7.heap.size w7 wo := by rw [← hwo]; exact (Below.refl _ _).alloc (Nat.le_refl _) _
      have HO8 : Hid (BoxD Z o wo) := ⟨by rw [← hwo, ← hZ]; exact Own.new _ _ _, hoi.below hbo⟩
      have HP8 := Lib.hid ((HP6.out.grow hb7).grow hbo)
      have HA8 := Lib.hid ((HA6.out.below hb7).below hbo)
      have HM8 := Lib.hid ((HM6.out.below hb7).below hbo)
      have HB8 : Hid (Below w.heap.size w wo) := (HB6.out.trans (hb7.mono HB6.out.size)).trans (hbo.mono (Nat.le_trans HB6.out.size hb7.size))
      have HDO : Hid (DrawnM o.val ms) := by rw [Hid, hov]; exact drawn_raise HDR.out (by omega) HYD.out hyd5
      have HOW : Hid (exposeC o.val xs (reachL o.val ms fr) = 0 ∧ worthA o.val xs (reachL o.val ms fr) = DV) := by
        have h1 := raise_worth (xs := xs) (b := (b : Int)) (c := d0) (by rw [← hov]; exact (HDO.out.run hf1 hf2).2) HAS.out
        rw [Hid, hov, HV.out]; exact h1
      obtain ⟨y0, y1, y2, y3, ly⟩ := HO8.out.cells
      clear hoi hov hb7 hbo
      go_wp2_with fail
      clear hwo hZ y0 y1 y2 y3 ly
      refine (specReachedBy_any o _ g.heightsN mc ms fr wo HO8.out.gi HM8.out).mono ?_
      rintro e w9 ⟨v, rfl, hown, hb9⟩
      have hrc := (HDO.out.run hf1 hf2).1
      rw [hrc]
      rw [reachA_run hrc] at hown
      obtain ⟨RA, rc, rfl, _, _, hrsl⟩ := hown.slice i64cells_len
      obtain ⟨R, hR⟩ : ∃ R, reachL o.val ms fr = R := ⟨_, rfl⟩
      have HOW2 := Lib.hid HOW.out
      rw [hR] at hrsl HOW2 ⊢
      obtain ⟨rl, hrl⟩ : ∃ rl, R.length = rl := ⟨_, rfl⟩
      rw [hrl] at hrsl ⊢
      have HR9 := Lib.hid hrsl
      have HO9 := Lib.hid (HO8.out.grow hb9)
      have HP9 := Lib.hid (HP8.out.grow hb9)
      have HA9 := Lib.hid (HA8.out.below hb9)
      have HM9 := Lib.hid (HM8.out.below hb9)
      have HB9 := Lib.hid (HB8.out.trans (hb9.mono HB8.out.size))
      clear hown hb9 hrc hR hrl hrsl HOW
      obtain ⟨y0, y1, y2, y3, ly⟩ := HO9.out.cells
      go_wp2_with fail
      clear y0 y1 y2 y3 ly
      refine (specExposedWorth_any o AA an ac xs RA rl rc R w9 HO9.out.gi HA9.out HXG.out HR9.out).mono ?_
      rintro e w10 ⟨rfl, hb10⟩
      rw [HOW2.out.1, HOW2.out.2]
      have HP10 := Lib.hid (HP9.out.grow hb10)
      have HA10 := Lib.hid (HA9.out.below hb10)
      have HM10 := Lib.hid (HM9.out.below hb10)
      have HB10 := Lib.hid (HB9.out.trans (hb10.mono HB9.out.size))
      clear hb10
      have hvv : (DV != DV) = false := by simp
      obtain ⟨m, hm, mcell, mlt⟩ := intsD HM10.out hcl
      have hm0 := (HMB.out m (List.mem_of_getElem? hm)).1
      by_cases hmp : 0 < m
      · have hd : decide (0 < m) = true := decide_eq_true hmp
        clear hmp hm
        go_wp2
        go_ret
        exact Ret.b rfl HB10.out
      have hmz : m = 0 := by omega
      subst hmz
      have HMIN2 := Lib.hid (HMIN.out cl hm)
      clear hm hmp
      have HDP : Hid (DrawnM p.val ms) := by rw [Hid, HPV.out]; exact drawn_raise HDR.out (by omega) HYC.out hyc5
      have HPW : Hid (exposeC p.val xs (reachL p.val ms fr) = 0 ∧ worthA p.val xs (reachL p.val ms fr) = damW g.val xs ms fr (b : Int) cl) := by
        have h1 := raise_worth (xs := xs) (b := (b : Int)) (c := cl) (by rw [← HPV.out]; exact (HDP.out.run hf1 hf2).2) HAS.out
        rw [Hid, HPV.out]; exact h1
      obtain ⟨WC, hWC⟩ : ∃ WC, damW g.val xs ms fr (b : Int) cl = WC := ⟨_, rfl⟩
      rw [hWC] at HPW HMIN2
      obtain ⟨y0, y1, y2, y3, ly⟩ := HP10.out.cells
      go_wp2_with fail
      clear y0 y1 y2 y3 ly hWC mcell
      refine (specReachedBy_any p _ g.heightsN mc ms fr w10 HP10.out.gi HM10.out).mono ?_
      rintro e w11 ⟨v, rfl, hown, hb11⟩
      have hrc := (HDP.out.run hf1 hf2).1
      rw [hrc]
      rw [reachA_run hrc] at hown
      obtain ⟨QA, qc, rfl, _, _, hqsl⟩ := hown.slice i64cells_len
      obtain ⟨Q, hQ⟩ : ∃ Q, reachL p.val ms fr = Q := ⟨_, rfl⟩
      have HPW2 := Lib.hid HPW.out
      rw [hQ] at hqsl HPW2 ⊢
      obtain ⟨ql, hql⟩ : ∃ ql, Q.length = ql := ⟨_, rfl⟩
      rw [hql] at hqsl ⊢
      have HQ11 := Lib.hid hqsl
      have HP11 := Lib.hid (HP10.out.grow hb11)
      have HA11 := Lib.hid (HA10.out.below hb11)
      have HB11 := Lib.hid (HB10.out.trans (hb11.mono HB10.out.size))
      clear hown hb11 hrc hQ hql hqsl HPW
      obtain ⟨y0, y1, y2, y3, ly⟩ := HP11.out.cells
      go_wp2_with fail
      clear y0 y1 y2 y3 ly
      refine (specExposedWorth_any p AA an ac xs QA ql qc Q w11 HP11.out.gi HA11.out HXG.out HQ11.out).mono ?_
      rintro e w12 ⟨rfl, hb12⟩
      rw [HPW2.out.1, HPW2.out.2]
      have hmin2 := HMIN2.out
      have hge : decide (WC < DV) = false := decide_eq_false (by omega)
      go_wp2
      go_ret
      exact Ret.b (by first | (simp; done) | (simp; omega)) (HB11.out.trans (hb12.mono HB11.out.size))

end Go.Proofs.Ythlgfmdlecdchaa

namespace Go.Proofs.Ythlgfmdlecdchaa.fnDams
open Go.ChangeShapes Go.WideShapes Go.ChangeAt Go.RowKit
set_option linter.unusedVariables false

theorem own : ownKnob Try.prog.godebug = none := by kernel_rfl
theorem laidOut : laidOutB Try.prog = true := by kernel_rfl

set_option maxRecDepth 100000 in
theorem lifted (os : Os) (started : os.Started) (H : Type) (enc : TypeId × Value → H) :
    ReturnsInHanded {} Try.checked os 5 .any (Rows.fnDamsSpec.pre6 enc Try.prog Try.f5 Rows.fnDamsRow.domain false) (Rows.fnDamsSpec.post enc Try.prog Try.f5 false true false false) := by
  refine returnsInHanded_of_change (C := Try.checked) own started (by kernel_rfl) Try.func5
    (ChangeSpec.witness6 (enc := enc) (C := Try.checked) false ⟨#[], #[.slice none 0 0, .slice none 0 0], []⟩ 8 (by kernel_rfl) (by kernel_rfl) (by kernel_rfl) (by kernel_rfl)) ?_
  intro W base args ds gs before hval0 hW hcnd _
  have hval : ∀ (j : Nat) t v, Try.f5.params[j]? = some t → args[j]? = some v → Value.okWide Try.prog W .any base t v := hval0
  have hW' := hW
  obtain ⟨p, q, hA0, hV, rfl, hfz, hnd⟩ := hW
  have hA : DataW.TrodAll enc Try.prog W 0 (fun _ => true) true Try.f5.params.toList args.toList ds p := hA0
  rw [Try.params5] at hA hval
  have hK := hA
  have hlt := trodAll_lt _ _ _ _ hA
  obtain ⟨v0, vs0, d0, ds0, p0, q0, hargs, rfl, rfl, h0, r0⟩ := trodAll_cons hA
  obtain ⟨v1, vs1, d1, ds1, p1, q1, rfl, rfl, rfl, h1, r1⟩ := trodAll_cons r0
  obtain ⟨rfl, rfl, rfl⟩ := trodAll_nil r1
  obtain rfl : args = #[v0, v1] := by cases args; simp_all
  obtain ⟨rfl, rfl⟩ := trodVars_none hV
  obtain ⟨A0, n0, c0, x0, rfl, l0, m0, s0, g0⟩ := arg_slice (cells := u8cells) Try.underlying22 (show Try.prog.cellsOf 5 = 1 by kernel_rfl) (by decide) (fun _ _ _ h => trod_u8 Try.underlying5 h) (hval 0 22 v0 rfl rfl) h0
  obtain ⟨A1, n1, c1, x1, rfl, l1, m1, s1, g1⟩ := arg_slice (cells := u8cells) Try.underlying22 (show Try.prog.cellsOf 5 = 1 by kernel_rfl) (by decide) (fun _ _ _ h => trod_u8 Try.underlying5 h) (hval 1 22 v1 rfl rfl) h1
  clear hA0 hval0
  refine (walk_FnDams A0 n0 c0 x0 A1 n1 c1 x1 W s0 g0 s1 g1).mono fun e W' ⟨he, bel⟩ => ?_
  subst he
  exact ⟨_, rfl, _, _, _, [], _, [], hW', trodAll_mk1 (shut_bool Try.underlying4 _), trodAll_below laidOut bel _ _ _ _ (by kernel_rfl) hK hlt, rfl, bel.frame _, fun h => by cases h⟩

theorem over : Rows.fnDamsRow.holds Try.pinned (OpenSpec.ofChange Rows.fnDamsSpec) :=
  OpenClaim.holds_of_wide 5 Try.f5 rfl rfl rfl rfl rfl rfl rfl ⟨rfl, rfl, rfl, rfl, rfl⟩ rfl rfl rfl rfl rfl (by kernel_rfl) Try.func5 (by kernel_rfl)
    (of_decide_eq_true (by kernel_rfl)) (by unfold Func.isWrapper; first | (rw [if_pos (by decide +kernel)]; kernel_rfl) | (rw [if_neg (by decide +kernel)]; exact ⟨rfl, rfl⟩))
    (fun os started H enc _ => lifted os started H enc)

/-- The statement. -/
theorem proved : Rows.FnDamsSaid := over
#print axioms proved
end Go.Proofs.Ythlgfmdlecdchaa.fnDams
