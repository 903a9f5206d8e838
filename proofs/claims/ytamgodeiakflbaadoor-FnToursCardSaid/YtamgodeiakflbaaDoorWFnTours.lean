/- The walk of the law FnTours: it returns true. -/
import Derived.Test.YtamgodeiakflbaaDoorR8Legs
import Derived.Test.YtamgodeiakflbaaDoorR8
import Derived.Test.YtamgodeiakflbaaDoorSafeI
import Derived.Test.YtamgodeiakflbaaDoorFastI
import Derived.Test.YtamgodeiakflbaaDoorFastS
import Derived.Test.YtamgodeiakflbaaDoorRoutes
import Derived.Test.YtamgodeiakflbaaDoorTourU
import Derived.Test.YtamgodeiakflbaaDoorReadLeg
import Derived.Deep.RegionHeld3
namespace Go.Proofs.YtamgodeiakflbaaDoor
open Go.RowKit

theorem reads_leg {pts : Int} {xs : List Leg} (hv : legsOk pts xs = true) {k : Nat} {x : Leg} (hx : xs[k]? = some x) : x.oneB 12 = true := by
  unfold legsOk at hv
  rw [Bool.and_eq_true, inB_iff] at hv
  have h := validL_good hv.2 hx
  have hp := hv.1
  unfold Leg.oneB at h ⊢
  simp only [Bool.and_eq_true, inB_iff] at h ⊢
  omega
theorem legText_size {x : Leg} (h : x.oneB 12 = true) : (legText x).size ≤ 1048576 := by
  have hb := Leg.one_bd h
  have h0 := dec_size hb.1
  have h1 := dec_size hb.2.1
  have h2 := dec_size hb.2.2.1
  have h3 := dec_size hb.2.2.2
  have e1 : (⟨#[45]⟩ : ByteArray).size = 1 := rfl
  have e2 : (⟨#[32]⟩ : ByteArray).size = 1 := rfl
  have e3 : (⟨#[33]⟩ : ByteArray).size = 1 := rfl
  unfold legText
  simp only [ByteArray.size_append]
  omega
theorem ends_at {xs : List Leg} {n s g : Nat} {w : World} {A : Option Addr} {rt : List Int} (h : SliceOf w 1 i64cells A rt.length rt) (hw : SimpleWay xs n s g rt) : ∃ b o m, A = some ⟨b, o, none⟩ ∧ b < w.heap.size ∧ rt.length = m + 1 ∧ w.cell? ⟨b, o, none⟩ = some (.int .i64 (s : Int)) ∧ w.cell? ⟨b, o + m, none⟩ = some (.int .i64 (g : Int)) := by
  have hl := hw.len
  obtain ⟨m, hm⟩ : ∃ m, rt.length = m + 1 := ⟨rt.length - 1, by omega⟩
  obtain ⟨b, o, y, rfl, hb, hy, y0⟩ := ints_at h (k := 0) (by omega)
  obtain ⟨b', o', z, he, _, hz, z0⟩ := ints_at h (k := m) (by omega)
  injection he with he
  injection he with he1 he2
  subst he1 he2
  obtain ⟨r, hr⟩ := hw.head
  rw [last_get hm, hw.last] at hz
  rw [hr] at hy
  simp at hy hz
  subst hy hz
  exact ⟨b, o, m, rfl, hb, hm, by simpa using y0, z0⟩
theorem tours2 {xs : List Leg} {n s g : Nat} (hv : legsOk (n : Int) xs = true) (hn : n ≤ 6) (hs : s < n) (hg : g < n) (h : fastC (n : Int) xs s g = 0) : ∃ (rt : List Int) (M E : Int) (sr : List Int) (sl : Int) (fr : List Int) (fl : Int),
    fastR (n : Int) xs s g = rt ∧ fastM (n : Int) xs s g = M ∧ (routeC (n : Int) xs rt = 0 ∧ minutesA (n : Int) xs rt = M ∧ exposeA (n : Int) xs rt = E) ∧ SimpleWay xs n s g rt ∧
    (safeC (n : Int) xs s g M 20000 = 0 ∧ safeR (n : Int) xs s g M 20000 = sr ∧ safeL (n : Int) xs s g M 20000 = sl) ∧ sl ≤ E ∧ SimpleWay xs n s g sr ∧ (routeC (n : Int) xs sr = 0 ∧ minutesA (n : Int) xs sr = M ∧ exposeA (n : Int) xs sr = sl) ∧
    (safeC (n : Int) xs s g 10000 20000 = 0 ∧ safeR (n : Int) xs s g 10000 20000 = fr ∧ safeL (n : Int) xs s g 10000 20000 = fl) ∧ fl ≤ sl ∧ SimpleWay xs n s g fr ∧ (routeC (n : Int) xs fr = 0 ∧ exposeA (n : Int) xs fr = fl) := by
  obtain ⟨t1, t2, t3, t4, t5, t6, t7, t8, t9, t10, t11⟩ := tours hv hn hs hg h
  have r1 := t1.route hv (by omega)
  have r5 := t5.route hv (by omega)
  have r10 := t10.route hv (by omega)
  exact ⟨_, _, _, _, _, _, _, rfl, rfl, ⟨r1, by unfold minutesA; rw [if_pos r1]; exact t2, by unfold exposeA; rw [if_pos r1]⟩, t1, ⟨t3, rfl, rfl⟩, t4, t5, ⟨r5, by unfold minutesA; rw [if_pos r5]; exact t6, by unfold exposeA; rw [if_pos r5]; exact t7⟩, ⟨t8, rfl, rfl⟩, t9, t10, r10, by unfold exposeA; rw [if_pos r10]; exact t11⟩
set_option maxRecDepth 100000 in
set_option maxHeartbeats 4000000 in
theorem walk_FnTours (A0 : Option Addr) (n0 c0 : Nat) (x0 : List Int) (A1 : Option Addr) (n1 c1 : Nat) (x1 : List Int) (w : World) (s0 : SliceOf w 1 u8cells A0 n0 x0) (g0 : ∀ x ∈ x0, 0 ≤ x ∧ x ≤ 255) (s1 : SliceOf w 1 u8cells A1 n1 x1) (g1 : ∀ x ∈ x1, 0 ≤ x ∧ x ≤ 255) (ht : LibAt w.heap.size w) :
    Calls Tryd.prog 3 #[.slice A0 n0 c0, .slice A1 n1 c1] w (Ret (.bool true) w) := by
  have S0 := Lib.hid s0
  have S1 := Lib.hid s1
  have G0 := Lib.hid g0
  have G1 := Lib.hid g1
  have HT := Lib.hid ht
  have hn0 := s0.le
  have hn1 := s1.le
  clear s0 s1 g0 g1 ht
  cases hlong : (decide (1048576 < n0) || decide (1048576 < n1))
  rotate_left
  · go_enter Tryd.func3, Tryd.ntmps3
    go_wp2_with (go_at_call 4; refine (r8Long_any A0 A1 n0 c0 n1 c1 _ hn0 hn1).mono ?_; rintro e w' ⟨rfl, rfl⟩; rw [hlong])
    go_ret
    exact Ret.b rfl (Below.refl _ _)
  go_enter Tryd.func3, Tryd.ntmps3
  go_wp2_with fail
  refine (r8Long_any A0 A1 n0 c0 n1 c1 _ hn0 hn1).mono ?_
  rintro e w' ⟨rfl, rfl⟩
  rw [hlong]
  clear hlong
  go_wp2_with fail
  refine (r8Legs_any A0 n0 c0 x0 w S0.out G0.out).mono ?_
  rintro e w1 ⟨p, AL, nl, cl, L, rfl, hp2, hp6, hv, hsl, hb1⟩
  have HV := Lib.hid hv
  have HL1 := Lib.hid hsl
  have HB1 := Lib.hid hb1
  have HS1 := Lib.hid (S1.out.below hb1)
  have HNL := Lib.hid hsl.len
  have hnl := hsl.le
  clear hv hsl hb1
  go_wp2_with fail
  refine (r8At_any A1 n1 c1 x1 0 p w1 HS1.out G1.out (by omega) (by omega) (by omega)).mono ?_
  rintro e w' ⟨a, rfl, ha, rfl⟩
  go_wp2_with fail
  refine (r8At_any A1 n1 c1 x1 1 p w1 HS1.out G1.out (by omega) (by omega) (by omega)).mono ?_
  rintro e w' ⟨b, rfl, hb, rfl⟩
  go_wp2_with fail
  refine (implFastest_any (p : Int) (a : Int) (b : Int) AL nl cl L w1 HL1.out).mono ?_
  rintro e w2 ⟨v, rfl, hown, hb2⟩
  have HB2 := Lib.hid (HB1.out.trans (hb2.mono HB1.out.size))
  have HL2 := Lib.hid (HL1.out.below hb2)
  have HO2 := Lib.hid hown
  clear hown hb2
  have HT2 := Lib.hid ((HT.out.on HB2.out).up HB2.out.size)
  go_wp2
  go_loopg [12] nl (fun gk s12 wr => ∃ k : Nat, k ≤ nl ∧ gk = nl - k ∧ s12 = .int .i64 (k : Int) ∧ Below w2.heap.size w2 wr)
  case atStart => exact ⟨0, Nat.zero_le _, rfl, rfl, Below.refl _ _⟩
  case round =>
    obtain ⟨k, hk, hgk, rfl, hbw⟩ := hrel
    have Hgk := Lib.hid hgk
    have HBW := Lib.hid hbw
    have hb : Below w.heap.size w wr := HB2.out.trans (hbw.mono HB2.out.size)
    have HB := Lib.hid hb
    have HTR := Lib.hid ((HT.out.on hb).up hb.size)
    have hlr := HL2.out.below hbw
    have HLR := Lib.hid hlr
    clear hgk hbw hb
    by_cases hlt : k < nl
    · obtain ⟨bb, off, x, rfl, hbb, hxk, z0, z1, z2, z3⟩ := Leg.at_ hlr hlt
      have HXK := Lib.hid hxk
      have hone := reads_leg HV.out hxk
      have HONE := Lib.hid hone
      have HLA : Hid (legTextA x = legText x) := by rw [Hid]; unfold legTextA; rw [if_pos hone]
      have HSZ := Lib.hid (legText_size hone)
      clear hxk hone hlr
      go_wp2_with fail
      refine (implLegText_any x wr HTR.out.tab).mono ?_
      rintro e w3 ⟨rfl, hb3⟩
      rw [HLA.out]
      have HB3 := Lib.hid (HB.out.trans (hb3.mono HB.out.size))
      have HW3 := Lib.hid (HBW.out.trans (hb3.mono HBW.out.size))
      have HT3 := Lib.hid (HTR.out.grow hb3)
      have HQ3 := Lib.hid hb3
      clear hb3
      go_wp2_with fail
      refine (implReadLeg_any (legText x) w3 HSZ.out HT3.out).mono ?_
      rintro e w4 ⟨r, rfl, hr, hb4⟩
      obtain rfl : r = some x := hr.uniq (ReadsLeg.of HONE.out)
      have HB4 := Lib.hid (HB3.out.trans (hb4.mono HB3.out.size))
      have HW4 := Lib.hid (HW3.out.trans (hb4.mono HW3.out.size))
      have hq4 := HQ3.out.trans (hb4.mono HQ3.out.size)
      simp only [rdLeg, Option.isSome_some]
      obtain ⟨X, hX⟩ : ∃ X, w4.heap.size = X := ⟨_, rfl⟩
      obtain ⟨w5, hw5⟩ : ∃ w5, w4.alloc (.cells #[.int .i64 x.from_, .int .i64 x.to_, .int .i64 x.minutes, .int .i64 x.exposure] 32) = w5 := ⟨_, rfl⟩
      have hb5 : Below w4.heap.size w4 w5 := by rw [← hw5]; exact (Below.refl _ _).alloc (Nat.le_refl _) _
      have HO5 : Hid (Own w5 X 32 #[.int .i64 x.from_, .int .i64 x.to_, .int .i64 x.minutes, .int .i64 x.exposure]) := by rw [Hid, ← hw5, ← hX]; exact Own.new _ _ _
      have hq5 := hq4.trans (hb5.mono hq4.size)
      have HW5 := Lib.hid (HW4.out.trans (hb5.mono HW4.out.size))
      have q0 : w5.cell? ⟨bb, off + k * 4, none⟩ = some (.int .i64 x.from_) := (hq5.cell (p := ⟨bb, off + k * 4, none⟩) hbb).trans z0
      have q1 : w5.cell? ⟨bb, off + k * 4 + 1, none⟩ = some (.int .i64 x.to_) := (hq5.cell (p := ⟨bb, off + k * 4 + 1, none⟩) hbb).trans z1
      have q2 : w5.cell? ⟨bb, off + k * 4 + 2, none⟩ = some (.int .i64 x.minutes) := (hq5.cell (p := ⟨bb, off + k * 4 + 2, none⟩) hbb).trans z2
      have q3 : w5.cell? ⟨bb, off + k * 4 + 3, none⟩ = some (.int .i64 x.exposure) := (hq5.cell (p := ⟨bb, off + k * 4 + 3, none⟩) hbb).trans z3
      have hb5s : bb < w5.heap.size := Nat.lt_of_lt_of_le hbb hq5.size
      have y0 := HO5.out.cell 0
      have y1 := HO5.out.cell 1
      have y2 := HO5.out.cell 2
      have y3 := HO5.out.cell 3
      have ly := HO5.out.lt
      simp at y0 y1 y2 y3
      have HE5 := Lib.hid hw5
      have HX5 := Lib.hid hX
      have hsub := fun (g : Sub w5) b o (h : b < w5.heap.size) => g.cell b o h
      clear hr hb4 hq4 hq5 hb5 hw5 hX z0 z1 z2 z3 hbb
      go_upto_region 11 with fail
      rw [HE5.out, HX5.out]
      refine wp_region_sub (by kernel_rfl) (by kernel_rfl) ?_
      repeat (go_big_quiet_step (fail))
      refine wpQuiet_nil ?_
      intro wg hg
      have HWG := Lib.hid (HW5.out.trans (hg.mono HW5.out.size))
      clear hg hsub y0 y1 y2 y3 ly q0 q1 q2 q3 hb5s
      go_wp2
      go_roundg (nl - (k + 1))
      case measure => have := Hgk.out; omega
      case rel => exact ⟨k + 1, by omega, rfl, by go_num, HWG.out⟩
    · have hkn : k = nl := by omega
      subst hkn
      clear hlt
      by_cases hc : fastC (p : Int) L (a : Int) (b : Int) = 0
      rotate_left
      · obtain ⟨c1, c2⟩ := safe_none HV.out hp6 ha hb hc
        have HC2 := Lib.hid c2
        rw [c1]
        clear hc c1 c2
        go_wp2_with fail
        refine (implSafest_any (p : Int) (a : Int) (b : Int) 10000 20000 AL k cl L wr HLR.out).mono ?_
        rintro e w3 ⟨v3, rfl, hown, hb3⟩
        rw [HC2.out]
        have HB3 := Lib.hid (HB.out.trans (hb3.mono HB.out.size))
        clear hown hb3
        go_wp2
        go_ret
        exact Ret.b rfl HB3.out
      obtain ⟨rt, M, E, sr, sl, fr, fl, hrt, hM, f1, t1, f2, hle, t5, f3, f4, hle2, t10, f5⟩ := tours2 HV.out hp6 ha hb hc
      have F1 := Lib.hid f1
      have F2 := Lib.hid f2
      have F3 := Lib.hid f3
      have F4 := Lib.hid f4
      have F5 := Lib.hid f5
      have HWS := Lib.hid t5
      have HWF := Lib.hid t10
      have HFM := Lib.hid hM
      have g1 : decide (E < sl) = false := decide_eq_false (by omega)
      have g2 : decide (sl < fl) = false := decide_eq_false (by omega)
      have g3 : ¬ E < sl := by omega
      have g4 : ¬ sl < fl := by omega
      have hown := HO2.out.below' HBW.out
      rw [hrt] at hown
      obtain ⟨A3, c3, rfl, _, _, hs3⟩ := hown.slice i64cells_len
      obtain ⟨b3, o3, m3, rfl, lb3, hm3, e0, e1⟩ := ends_at hs3 t1
      have HR3 := Lib.hid hs3
      have hl3 := t1.len
      have m3b : m3 ≤ 6 := by omega
      have m3w : IntKind.i64.wrap ((m3 : Int) + 1 - 1) = (m3 : Int) := by rw [Int.add_sub_cancel]; exact IntWalk.i64_in _ (by omega)
      have m3v : IntKind.i64.wrap (m3 : Int) = (m3 : Int) := IntWalk.i64_in _ (by omega)
      have m3u : ((m3 : Int) + 1).toNat = m3 + 1 := by omega
      have m3t : (0 : Int) ≤ (m3 : Int) ∧ (m3 : Int) < (m3 : Int) + 1 := by omega
      have m3s : (((m3 + 1 : Nat) : Int) == 0) = false := by simp; omega
      rw [hm3] at HR3
      clear hl3
      rw [hm3, hM, hc]
      clear hown hs3 f1 f2 f3 f4 f5 t1 t5 t10 hle hle2 hrt hM hm3 hc
      go_wp2_with fail
      refine (specRouteMinutes_any (p : Int) AL k cl L _ _ c3 rt wr HLR.out HR3.out).mono ?_
      rintro e w3 ⟨rfl, hb3⟩
      rw [F1.out.1, F1.out.2.1]
      have HB3 := Lib.hid hb3
      clear hb3 e0 e1 lb3
      go_wp2_with fail
      refine (specRouteExposure_any (p : Int) AL k cl L _ _ c3 rt w3 (HLR.out.below HB3.out) (HR3.out.below HB3.out)).mono ?_
      rintro e w4 ⟨rfl, hb4⟩
      rw [F1.out.1, F1.out.2.2]
      have HB4 := Lib.hid (HB3.out.trans (hb4.mono HB3.out.size))
      clear hb4
      go_wp2_with fail
      refine (implSafest_any (p : Int) (a : Int) (b : Int) M 20000 AL k cl L w4 (HLR.out.below HB4.out)).mono ?_
      rintro e w5 ⟨v5, rfl, ho5, hb5⟩
      rw [F2.out.1, F2.out.2.2]
      rw [F2.out.2.1] at ho5
      have HO5 := Lib.hid ho5
      have HB5 := Lib.hid (HB4.out.trans (hb5.mono HB4.out.size))
      clear ho5 hb5
      go_wp2_with fail
      refine (implSafest_any (p : Int) (a : Int) (b : Int) 10000 20000 AL k cl L w5 (HLR.out.below HB5.out)).mono ?_
      rintro e w6 ⟨v6, rfl, ho6, hb6⟩
      rw [F4.out.1, F4.out.2.2]
      rw [F4.out.2.1] at ho6
      have HB6 := Lib.hid (HB5.out.trans (hb6.mono HB5.out.size))
      obtain ⟨A5, c5, rfl, _, _, hs5⟩ := (HO5.out.below' hb6).slice i64cells_len
      obtain ⟨A6, c6, rfl, _, _, hs6⟩ := ho6.slice i64cells_len
      have HS5 := Lib.hid hs5
      have HS6 := Lib.hid hs6
      obtain ⟨_, _, m5, z1, z2, hm5, z3, z4⟩ := ends_at hs5 HWS.out
      clear z1 z2 z3 z4
      obtain ⟨_, _, m6, z1, z2, hm6, z3, z4⟩ := ends_at hs6 HWF.out
      clear z1 z2 z3 z4
      have HM5 := Lib.hid hm5
      have HM6 := Lib.hid hm6
      have hl5 := HWS.out.len
      have hl6 := HWF.out.len
      have m5b : m5 ≤ 6 := by omega
      have m5r : (((m5 : Int) + 1) == 0) = false := by simp only [beq_eq_false_iff_ne]; omega
      have m5q : ¬ ((m5 : Int) + 1 = 0) := by omega
      have m5w : IntKind.i64.wrap ((m5 : Int) + 1 - 1) = (m5 : Int) := by rw [Int.add_sub_cancel]; exact IntWalk.i64_in _ (by omega)
      have m5v : IntKind.i64.wrap (m5 : Int) = (m5 : Int) := IntWalk.i64_in _ (by omega)
      have m5u : ((m5 : Int) + 1).toNat = m5 + 1 := by omega
      have m5t : (0 : Int) ≤ (m5 : Int) ∧ (m5 : Int) < (m5 : Int) + 1 := by omega
      have m5s : (((m5 + 1 : Nat) : Int) == 0) = false := by simp; omega
      have m6b : m6 ≤ 6 := by omega
      have m6r : (((m6 : Int) + 1) == 0) = false := by simp only [beq_eq_false_iff_ne]; omega
      have m6q : ¬ ((m6 : Int) + 1 = 0) := by omega
      have m6w : IntKind.i64.wrap ((m6 : Int) + 1 - 1) = (m6 : Int) := by rw [Int.add_sub_cancel]; exact IntWalk.i64_in _ (by omega)
      have m6v : IntKind.i64.wrap (m6 : Int) = (m6 : Int) := IntWalk.i64_in _ (by omega)
      have m6u : ((m6 : Int) + 1).toNat = m6 + 1 := by omega
      have m6t : (0 : Int) ≤ (m6 : Int) ∧ (m6 : Int) < (m6 : Int) + 1 := by omega
      have m6s : (((m6 + 1 : Nat) : Int) == 0) = false := by simp; omega
      clear hl5 hl6
      rw [hm5, hm6]
      rw [hm5] at HS5
      rw [hm6] at HS6
      clear ho6 hb6 hs5 hs6 hm5 hm6
      go_wp2_with fail
      refine (implRouteMinutes_any (p : Int) AL k cl L _ _ c5 sr w6 (HLR.out.below HB6.out) HS5.out).mono ?_
      rintro e w7 ⟨rfl, hb7⟩
      rw [F3.out.1, F3.out.2.1]
      have HC7 := Lib.hid hb7
      have HB7 := Lib.hid (HB6.out.trans (hb7.mono HB6.out.size))
      clear hb7
      go_wp2_with fail
      refine (implRouteExposure_any (p : Int) AL k cl L _ _ c5 sr w7 (HLR.out.below HB7.out) (HS5.out.below HC7.out)).mono ?_
      rintro e w8 ⟨rfl, hb8⟩
      rw [F3.out.1, F3.out.2.2]
      have HC8 := Lib.hid (HC7.out.trans (hb8.mono HC7.out.size))
      have HB8 := Lib.hid (HB7.out.trans (hb8.mono HB7.out.size))
      clear hb8
      go_wp2_with fail
      refine (implRouteExposure_any (p : Int) AL k cl L _ _ c6 fr w8 (HLR.out.below HB8.out) (HS6.out.below HC8.out)).mono ?_
      rintro e w9 ⟨rfl, hb9⟩
      rw [F5.out.1, F5.out.2]
      have HC9 := Lib.hid (HC8.out.trans (hb9.mono HC8.out.size))
      have HB9 := Lib.hid (HB8.out.trans (hb9.mono HB8.out.size))
      clear hb9
      have hs5 := HS5.out.below HC9.out
      have hs6 := HS6.out.below HC9.out
      rw [← HM5.out] at hs5
      rw [← HM6.out] at hs6
      obtain ⟨b5, o5, m5', rfl, lb5, hm5, p0, p1⟩ := ends_at hs5 HWS.out
      obtain ⟨b6, o6, m6', rfl, lb6, hm6, q0, q1⟩ := ends_at hs6 HWF.out
      obtain rfl : m5' = m5 := by have := HM5.out; omega
      obtain rfl : m6' = m6 := by have := HM6.out; omega
      clear hs5 hs6 hm5 hm6
      go_wp2
      go_loopg [34] k (fun gk s34 wr2 => ∃ j : Nat, j ≤ k ∧ gk = k - j ∧ s34 = .int .i64 (j : Int) ∧ Below w9.heap.size w9 wr2)
      case atStart => exact ⟨0, Nat.zero_le _, rfl, rfl, Below.refl _ _⟩
      case round =>
        obtain ⟨j, hj, hgj, rfl, hbj⟩ := hrel
        have Hgj := Lib.hid hgj
        have hbw := HB9.out.trans (hbj.mono HB9.out.size)
        have HBJ := Lib.hid hbj
        have HBW2 := Lib.hid hbw
        have hlr := HLR.out.below hbw
        have HLR2 := Lib.hid hlr
        clear hgj hbj hbw
        by_cases hlt : j < k
        · obtain ⟨bb, off, x, rfl, hbb, hxk, z0, z1, z2, z3⟩ := Leg.at_ hlr hlt
          have HXK := Lib.hid hxk
          clear hxk hlr
          go_wp2_with fail
          refine (specFastest_any (p : Int) (a : Int) x.from_ _ k cl L _ HLR2.out).mono ?_
          rintro e v1 ⟨r1, rfl, _, hq1⟩
          have y1 := (hq1.cell (p := ⟨bb, off + j * 4 + 1, none⟩) hbb).trans z1
          have y2 := (hq1.cell (p := ⟨bb, off + j * 4 + 2, none⟩) hbb).trans z2
          have hb1 : bb < v1.heap.size := Nat.lt_of_lt_of_le hbb hq1.size
          have HQ1 := Lib.hid hq1
          have HJ1 := Lib.hid (HBJ.out.trans (hq1.mono HBJ.out.size))
          clear hq1 z0 z1 z2 z3 hbb
          go_wp2_with fail
          refine (specFastest_any (p : Int) x.to_ (b : Int) _ k cl L v1 (HLR2.out.below HQ1.out)).mono ?_
          rintro e v2 ⟨r2, rfl, _, hq2⟩
          have x2 := (hq2.cell (p := ⟨bb, off + j * 4 + 2, none⟩) hb1).trans y2
          have hb2 : bb < v2.heap.size := Nat.lt_of_lt_of_le hb1 hq2.size
          have HJ2 := Lib.hid (HJ1.out.trans (hq2.mono HJ1.out.size))
          clear hq2 y1 y2 hb1
          obtain ⟨C1, hC1⟩ : ∃ C1, fastC (p : Int) L (a : Int) x.from_ = C1 := ⟨_, rfl⟩
          obtain ⟨C2, hC2⟩ : ∃ C2, fastC (p : Int) L x.to_ (b : Int) = C2 := ⟨_, rfl⟩
          obtain ⟨N1, hN1⟩ : ∃ N1, fastM (p : Int) L (a : Int) x.from_ = N1 := ⟨_, rfl⟩
          obtain ⟨N2, hN2⟩ : ∃ N2, fastM (p : Int) L x.to_ (b : Int) = N2 := ⟨_, rfl⟩
          have HK : Hid (C1 = 0 → C2 = 0 → (0 ≤ N1 ∧ N1 ≤ 10000) ∧ (0 ≤ N2 ∧ N2 ≤ 10000) ∧ (0 ≤ x.minutes ∧ x.minutes ≤ 600) ∧ M ≤ N1 + x.minutes + N2) := fun k1 k2 => by
            have hmem := List.mem_of_getElem? HXK.out
            have hf := legs_fit HV.out x hmem
            have f0 := hf.f0
            have ft := hf.ft
            have tt := hf.t1
            have nf := no_faster HV.out ha hb hmem (hC1.trans k1) (hC2.trans k2)
            rw [hN1, hN2, HFM.out] at nf
            obtain ⟨u, hu⟩ : ∃ u : Nat, x.from_ = u := ⟨x.from_.toNat, by omega⟩
            obtain ⟨v, hv⟩ : ∃ v : Nat, x.to_ = v := ⟨x.to_.toNat, by omega⟩
            have w1 := fast_yes HV.out ha (show u < p by omega) (by rw [← hu]; exact hC1.trans k1)
            have w2 := fast_yes HV.out (show v < p by omega) hb (by rw [← hv]; exact hC2.trans k2)
            have b1 := w1.1.mins HV.out (by omega)
            have b2 := w2.1.mins HV.out (by omega)
            rw [w1.2.1, ← hu, hN1] at b1
            rw [w2.2.1, ← hv, hN2] at b2
            exact ⟨b1, b2, ⟨by have := hf.m1; omega, hf.m2⟩, nf.2⟩
          rw [hC1, hC2, hN1, hN2]
          clear hC1 hC2 hN1 hN2
          by_cases k1 : C1 = 0
          · subst k1
            by_cases k2 : C2 = 0
            · subst k2
              have hk := HK.out rfl rfl
              obtain ⟨⟨h1, h2⟩, ⟨h3, h4⟩, ⟨h5, h6⟩, h7⟩ := hk
              have e1 : IntKind.i64.wrap (N1 + x.minutes) = N1 + x.minutes := IntWalk.i64_in _ (by omega)
              have e2 : IntKind.i64.wrap (N1 + x.minutes + N2) = N1 + x.minutes + N2 := IntWalk.i64_in _ (by omega)
              have e3 : decide (N1 + x.minutes + N2 < M) = false := decide_eq_false (by omega)
              go_wp2
              go_roundg (k - (j + 1))
              case measure => have := Hgj.out; omega
              case rel => exact ⟨j + 1, by omega, rfl, by go_num, HJ2.out⟩
            · have e0 : (C2 == 0) = false := by simp [k2]
              go_wp2
              go_roundg (k - (j + 1))
              case measure => have := Hgj.out; omega
              case rel => exact ⟨j + 1, by omega, rfl, by go_num, HJ2.out⟩
          · have e0 : (C1 == 0) = false := by simp [k1]
            go_wp2
            go_roundg (k - (j + 1))
            case measure => have := Hgj.out; omega
            case rel => exact ⟨j + 1, by omega, rfl, by go_num, HJ2.out⟩
        · have hkn : j = k := by omega
          subst hkn
          go_wp2
          go_ret
          exact Ret.b rfl (HB.out.trans (HBW2.out.mono HB.out.size))

end Go.Proofs.YtamgodeiakflbaaDoor
