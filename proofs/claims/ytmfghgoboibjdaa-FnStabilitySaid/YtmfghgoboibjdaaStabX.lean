/- The index of a layer, the weakest layer and whether a slab is stable: the program's and the reference's functions. -/
import Derived.Test.YtmfghgoboibjdaaStabN
namespace Go.Proofs.Ytmfghgoboibjdaa
open Go.RowKit

theorem stress_low {load rise run : Int} (hl : 0 ≤ load ∧ load ≤ 33000000) (hr : 0 ≤ rise ∧ rise ≤ 1000) (hu : 1 ≤ run ∧ run ≤ 1000) : 0 ≤ stressN load rise run ∧ stressN load rise run ≤ 32373000000 := by
  refine ⟨(stress_bd hl.1 hl.2 hr.1 hr.2 hu.1 hu.2).1, ?_⟩
  have hp := stress_parts hl.1 hl.2 hr.1 hr.2 hu.1 hu.2
  have key : 2 * (rise * run) ≤ rise * rise + run * run := by
    have h : 0 ≤ (rise - run) * (rise - run) := by
      rcases Int.le_total run rise with h | h
      · exact Int.mul_nonneg (by omega) (by omega)
      · have := Int.mul_nonneg (show 0 ≤ -(rise - run) by omega) (show 0 ≤ -(rise - run) by omega)
        rwa [Int.neg_mul_neg] at this
    have e : (rise - run) * (rise - run) = rise * rise + run * run - 2 * (rise * run) := by
      rw [Int.sub_mul, Int.mul_sub, Int.mul_sub, Int.mul_comm run rise]; omega
    omega
  have h1 : stressN load rise run ≤ rnd (981 * load) 200000 := by
    unfold stressN
    refine rnd_mono (by omega) (by omega) (by omega) (by decide) ?_
    have e1 : 981 * load * rise * run * 200000 = 981 * load * (rise * run * 200000) := by rw [Int.mul_assoc (981 * load) rise run, Int.mul_assoc (981 * load)]
    rw [e1]
    exact Int.mul_le_mul_of_nonneg_left (by omega) (by omega)
  have h2 := rnd_bounds (a := 981 * load) (b := 200000) (by decide) 32373000000 (by omega) (by omega)
  omega
theorem getD_at {xs : List Layer} {k : Nat} {x : Layer} (h : xs[k]? = some x) : xs.getD k default = x := by rw [List.getD_eq_getElem?_getD, h]; rfl
theorem wrap_small {x : Int} (h : 0 ≤ x ∧ x ≤ 1000000000000) : IntKind.i64.wrap x = x := IntWalk.i64_in _ ⟨by omega, by omega⟩
theorem quo_parts {a s : Int} (ha : 0 ≤ a ∧ a ≤ 100000000000) (hs : 1 ≤ s) : a.tdiv s = a / s ∧ 0 ≤ a / s ∧ a / s ≤ 100000000000 := by
  refine ⟨Int.tdiv_eq_ediv_of_nonneg ha.1, Int.ediv_nonneg ha.1 (by omega), ?_⟩
  have := Int.ediv_le_self s ha.1
  omega
set_option maxHeartbeats 1000000 in
theorem index_ok (b o n c k : Nat) (r u d mo : Int) (xs : List Layer) (w : World) (hx : SliceOf w 7 Layer.cells (some ⟨b, o, none⟩) n xs) (hv : profB xs = true) (hk : k < n) (hc : n ≤ c) (hc2 : c ≤ 9223372036854775807) (hr : 0 ≤ r ∧ r ≤ 1000) (hu : 1 ≤ u ∧ u ≤ 1000) (hd : 0 ≤ d ∧ d ≤ 1000) (hmo : 0 ≤ mo ∧ mo ≤ 1000000) :
    Calls Try.prog 26 #[.agg #[.slice (some ⟨b, o, none⟩) n c, .int .i64 r, .int .i64 u, .int .i64 d, .int .i64 mo], .int .i64 k] w (Ret (.tuple #[.int .i64 (lowAt xs mo r u d k), .int .i64 (highAt xs mo r u d k)]) w) := by
  obtain ⟨w1, hw1⟩ : ∃ w1, w.alloc (.cells #[.slice (some ⟨b, o, none⟩) n c, .int .i64 r, .int .i64 u, .int .i64 d, .int .i64 mo] 49) = w1 := ⟨_, rfl⟩
  obtain ⟨X, hX⟩ : ∃ X, w.heap.size = X := ⟨_, rfl⟩
  have hb1 : Below w.heap.size w w1 := by rw [← hw1]; exact (Below.refl _ _).alloc (Nat.le_refl _) _
  have HO1 : Hid (Own w1 X 49 #[.slice (some ⟨b, o, none⟩) n c, .int .i64 r, .int .i64 u, .int .i64 d, .int .i64 mo]) := by rw [Hid, ← hw1, ← hX]; exact Own.new _ _ _
  have HX1 := Lib.hid (hx.below hb1)
  have HB1 := Lib.hid hb1
  have HV := Lib.hid hv
  have hld := load_bd hv k
  obtain ⟨b', o', x, he, hbl, hxk, x0, x1, x2, x3, x4, x5, x6⟩ := Layer.at_ HX1.out hk
  injection he with he
  injection he with e1 e2 _
  subst e1 e2
  have hone := prof_at hv hxk
  have HONE := Lib.hid hone
  have hlo := low_bd hone hd.1 hd.2
  have hhi := high_bd hone hd.1 hd.2
  have hst := stress_low (load := loadN xs k + mo) (rise := r) (run := u) (by omega) hr hu
  have HLO : Hid (lowAt xs mo r u d k = idxLowS (lowN x d) (stressN (loadN xs k + mo) r u)) := by rw [Hid]; unfold lowAt; rw [getD_at hxk]
  have HHI : Hid (highAt xs mo r u d k = idxHighS (highN x d) (stressN (loadN xs k + mo) r u)) := by rw [Hid]; unfold highAt; rw [getD_at hxk]
  obtain ⟨lo, hlo'⟩ : ∃ lo, lowN x d = lo := ⟨_, rfl⟩
  obtain ⟨hi, hhi'⟩ : ∃ hi, highN x d = hi := ⟨_, rfl⟩
  obtain ⟨S, hS⟩ : ∃ S, stressN (loadN xs k + mo) r u = S := ⟨_, rfl⟩
  obtain ⟨LD, hLD⟩ : ∃ LD, loadN xs k = LD := ⟨_, rfl⟩
  rw [hlo'] at hlo HLO
  rw [hhi'] at hhi HHI
  rw [hS] at hst HLO HHI
  rw [hLD] at hld hS
  have hl1 : 0 ≤ lo ∧ lo ≤ 28350000 := ⟨hlo.2.2.1, hlo.2.2.2⟩
  have hh1 : 0 ≤ hi ∧ hi ≤ 56700001 := ⟨hhi.2.2.1, hhi.2.2.2⟩
  have y0 := HO1.out.cell 0
  have y1 := HO1.out.cell 1
  have y2 := HO1.out.cell 2
  have y3 := HO1.out.cell 3
  have y4 := HO1.out.cell 4
  have ly := HO1.out.lt
  simp at y0 y1 y2 y3 y4
  have hsub := fun (g : Sub w1) b o (h : b < w1.heap.size) => g.cell b o h
  clear hx hv hb1 hxk hone hlo hhi
  go_enter Try.func26, Try.ntmps26
  go_wp2_with fail
  refine wp_region_sub (by kernel_rfl) (by kernel_rfl) ?_
  repeat (go_big_quiet_step (exact Calls.sub_of_eq (strength_ok x d _ HONE.out hd) (by rw [hlo', hhi'])))
  refine wpQuiet_nil ?_
  intro wg hg
  clear hlo' hhi' hsub x0 x1 x2 x3 x4 x5 x6 y0 y1 y2 y3 y4 ly
  have HOg := Lib.hid (HO1.out.below' hg)
  have HXg := Lib.hid (HX1.out.below hg)
  have HBg := Lib.hid (HB1.out.trans (hg.mono HB1.out.size))
  clear hg hw1
  have y0 := HOg.out.cell 0
  have y1 := HOg.out.cell 1
  have y2 := HOg.out.cell 2
  have y3 := HOg.out.cell 3
  have y4 := HOg.out.cell 4
  have ly := HOg.out.lt
  simp at y0 y1 y2 y3 y4
  have hsub := fun (g : Sub wg) b o (h : b < wg.heap.size) => g.cell b o h
  go_wp2_with fail
  refine wp_region_sub (by kernel_rfl) (by kernel_rfl) ?_
  repeat (go_big_quiet_step (first | exact Calls.sub_of_eq (loadAbove_ok _ _ _ _ _ xs _ (HXg.out.below (Sub.below _)) HV.out hk hc hc2) (by rw [hLD]) | exact Calls.sub_of_eq (stressOf_ok _ _ _ _ (by omega) hr hu) (by rw [hS])))
  refine wpQuiet_nil ?_
  intro wg hg
  have HBh := Lib.hid (HBg.out.trans (hg.mono HBg.out.size))
  clear hg hsub y0 y1 y2 y3 y4 ly hS hLD
  by_cases h0 : S = 0
  · subst h0
    go_wp2
    go_ret2
    exact Ret.ii (by rw [HLO.out]; rfl) (by rw [HHI.out]; rfl) HBh.out
  have hq1 := quo_parts (a := 1000 * lo) (s := S) (by omega) (by omega)
  have hq2 := quo_parts (a := 1000 * hi + S - 1) (s := S) (by omega) (by omega)
  obtain ⟨R, hR⟩ : ∃ R, 1000 * lo / S = R := ⟨_, rfl⟩
  rw [hR] at hq1
  obtain ⟨ht1, hr0, hr1⟩ := hq1
  have hrw := wrap_small (x := R) (by omega)
  have HLO2 : Hid (lowAt xs mo r u d k = min R 1000000) := by rw [Hid, HLO.out, ← hR]; unfold idxLowS; rw [if_neg h0]
  have HHI2 : Hid (highAt xs mo r u d k = min ((1000 * hi + S - 1) / S) 1000000) := by rw [Hid, HHI.out]; unfold idxHighS; rw [if_neg h0]
  clear hR hq2
  go_wp2_with fail
  refine wp_region_sub (by kernel_rfl) (by kernel_rfl) ?_
  repeat (go_big_quiet_step (exact Calls.sub_of_same (divUp_any _ _ _ (by omega) (by omega) (by omega) (by omega))))
  refine wpQuiet_nil ?_
  intro wg hg
  have HBi := Lib.hid (HBh.out.trans (hg.mono HBh.out.size))
  clear hg
  go_wp2
  all_goals
    go_ret2
    exact Ret.ii (by rw [HLO2.out]; omega) (by rw [HHI2.out]; omega) HBi.out
set_option maxHeartbeats 1000000 in
theorem l07Index_ok (b o n c k : Nat) (r u d mo : Int) (xs : List Layer) (w : World) (hx : SliceOf w 7 Layer.cells (some ⟨b, o, none⟩) n xs) (hv : profB xs = true) (hk : k < n) (hc : n ≤ c) (hc2 : c ≤ 9223372036854775807) (hr : 0 ≤ r ∧ r ≤ 1000) (hu : 1 ≤ u ∧ u ≤ 1000) (hd : 0 ≤ d ∧ d ≤ 1000) (hmo : 0 ≤ mo ∧ mo ≤ 1000000) :
    Calls Try.prog 36 #[.slice (some ⟨b, o, none⟩) n c, .int .i64 k, .int .i64 mo, .int .i64 r, .int .i64 u, .int .i64 d] w (Ret (.tuple #[.int .i64 (lowAt xs mo r u d k), .int .i64 (highAt xs mo r u d k)]) w) := by
  have HX := Lib.hid hx
  have HV := Lib.hid hv
  have hld := load_bd hv k
  obtain ⟨b', o', x, he, hbl, hxk, x0, x1, x2, x3, x4, x5, x6⟩ := Layer.at_ hx hk
  injection he with he
  injection he with e1 e2 _
  subst e1 e2
  have hone := prof_at hv hxk
  have HONE := Lib.hid hone
  have hlo := low_bd hone hd.1 hd.2
  have hhi := high_bd hone hd.1 hd.2
  have hst := stress_low (load := loadN xs k + mo) (rise := r) (run := u) (by omega) hr hu
  have HLO : Hid (lowAt xs mo r u d k = idxLowS (lowN x d) (stressN (loadN xs k + mo) r u)) := by rw [Hid]; unfold lowAt; rw [getD_at hxk]
  have HHI : Hid (highAt xs mo r u d k = idxHighS (highN x d) (stressN (loadN xs k + mo) r u)) := by rw [Hid]; unfold highAt; rw [getD_at hxk]
  obtain ⟨lo, hlo'⟩ : ∃ lo, lowN x d = lo := ⟨_, rfl⟩
  obtain ⟨hi, hhi'⟩ : ∃ hi, highN x d = hi := ⟨_, rfl⟩
  obtain ⟨S, hS⟩ : ∃ S, stressN (loadN xs k + mo) r u = S := ⟨_, rfl⟩
  obtain ⟨LD, hLD⟩ : ∃ LD, loadN xs k = LD := ⟨_, rfl⟩
  rw [hlo'] at hlo HLO
  rw [hhi'] at hhi HHI
  rw [hS] at hst HLO HHI
  rw [hLD] at hld hS
  have hl1 : 0 ≤ lo ∧ lo ≤ 28350000 := ⟨hlo.2.2.1, hlo.2.2.2⟩
  have hh1 : 0 ≤ hi ∧ hi ≤ 56700001 := ⟨hhi.2.2.1, hhi.2.2.2⟩
  clear hx hv hxk hone hlo hhi
  go_enter Try.func36, Try.ntmps36
  go_wp2_with fail
  refine (l03Load_ok _ _ _ _ _ xs _ HX.out HV.out hk hc hc2).mono ?_
  rintro e w' ⟨rfl, rfl⟩
  rw [hLD]
  go_wp2_with fail
  refine (l07Stress_ok _ _ _ _ (by omega) hr hu).mono ?_
  rintro e w' ⟨rfl, rfl⟩
  rw [hS]
  clear hS hLD
  by_cases h0 : S = 0
  · subst h0
    go_wp2
    go_ret2
    exact Ret.ii (by rw [HLO.out]; rfl) (by rw [HHI.out]; rfl) (Below.refl _ _)
  have hq1 := quo_parts (a := lo * 1000) (s := S) (by omega) (by omega)
  have hq2 := quo_parts (a := hi * 1000 + S - 1) (s := S) (by omega) (by omega)
  obtain ⟨R, hR⟩ : ∃ R, lo * 1000 / S = R := ⟨_, rfl⟩
  rw [hR] at hq1
  obtain ⟨ht1, hr0, hr1⟩ := hq1
  obtain ⟨Q, hQ⟩ : ∃ Q, (hi * 1000 + S - 1) / S = Q := ⟨_, rfl⟩
  rw [hQ] at hq2
  obtain ⟨ht2, hq0, hq1⟩ := hq2
  have hrw := wrap_small (x := R) (by omega)
  have hqw := wrap_small (x := Q) (by omega)
  have HLO2 : Hid (lowAt xs mo r u d k = min 1000000 R) := by rw [Hid, HLO.out, ← hR]; unfold idxLowS; rw [if_neg h0, Int.mul_comm 1000 lo, Int.min_comm]
  have HHI2 : Hid (highAt xs mo r u d k = min 1000000 Q) := by rw [Hid, HHI.out, ← hQ]; unfold idxHighS; rw [if_neg h0, Int.mul_comm 1000 hi, Int.min_comm]
  clear hR hQ
  go_wp2_with fail
  refine (l07Strength_ok x d _ _ _ hbl x0 x3 HONE.out hd).mono ?_
  rintro e w1 ⟨rfl, hb1⟩
  rw [hlo', hhi']
  have HB1 := Lib.hid hb1
  clear hb1 hlo' hhi' x0 x1 x2 x3 x4 x5 x6
  have hsub := fun (g : Sub w1) b o (h : b < w1.heap.size) => g.cell b o h
  go_wp2_with fail
  refine wp_region_sub (by kernel_rfl) (by kernel_rfl) ?_
  repeat (go_big_quiet_step (exact Calls.sub_of_same (l00Min_any _ _ _)))
  refine wpQuiet_nil ?_
  intro wg hg
  have HBi := Lib.hid (HB1.out.trans (hg.mono HB1.out.size))
  clear hg hsub
  go_wp2
  go_ret2
  exact Ret.ii (by rw [HLO2.out]) (by rw [HHI2.out]) HBi.out
theorem weakN_step (f : Nat → Int) (i : Int) (k : Nat) : weakN f i (k + 1) = if (weakN f i k).1 < 0 ∨ f k < (weakN f i k).2 then ((k : Int), f k) else weakN f i k := rfl
set_option maxHeartbeats 1000000 in
theorem weakest_ok (A : Option Addr) (n c : Nat) (r u d mo : Int) (xs : List Layer) (w : World) (hx : SliceOf w 7 Layer.cells A n xs) (hv : profB xs = true) (hc : n ≤ c) (hc2 : c ≤ 9223372036854775807) (hr : 0 ≤ r ∧ r ≤ 1000) (hu : 1 ≤ u ∧ u ≤ 1000) (hd : 0 ≤ d ∧ d ≤ 1000) (hmo : 0 ≤ mo ∧ mo ≤ 1000000) :
    Calls Try.prog 30 #[.agg #[.slice A n c, .int .i64 r, .int .i64 u, .int .i64 d, .int .i64 mo]] w (Ret (.tuple #[.int .i64 (weakN (lowAt xs mo r u d) 1000000 n).1, .int .i64 (weakN (lowAt xs mo r u d) 1000000 n).2]) w) := by
  obtain ⟨w1, hw1⟩ : ∃ w1, w.alloc (.cells #[.slice A n c, .int .i64 r, .int .i64 u, .int .i64 d, .int .i64 mo] 49) = w1 := ⟨_, rfl⟩
  obtain ⟨X, hX⟩ : ∃ X, w.heap.size = X := ⟨_, rfl⟩
  have hb1 : Below w.heap.size w w1 := by rw [← hw1]; exact (Below.refl _ _).alloc (Nat.le_refl _) _
  have HO1 : Hid (Own w1 X 49 #[.slice A n c, .int .i64 r, .int .i64 u, .int .i64 d, .int .i64 mo]) := by rw [Hid, ← hw1, ← hX]; exact Own.new _ _ _
  have HX1 := Lib.hid (hx.below hb1)
  have HB1 := Lib.hid hb1
  have HV := Lib.hid hv
  have h16 : n ≤ 16 := by rw [← hx.len]; exact (profB_iff.1 hv).1
  obtain ⟨f, hf⟩ : ∃ f, lowAt xs mo r u d = f := ⟨_, rfl⟩
  have y0 := HO1.out.cell 0
  have ly := HO1.out.lt
  simp at y0
  rw [hf]
  clear hx hv hb1
  go_enter Try.func30, Try.ntmps30
  go_wp2
  clear y0 ly hw1
  go_loopg [4, 5, 12] n (fun gk s4 s5 s12 wr => ∃ (k : Nat) (p q : Int), k ≤ n ∧ gk = n - k ∧ s12 = .int .i64 k ∧ s4 = .int .i64 p ∧ s5 = .int .i64 q ∧ weakN f 1000000 k = (p, q) ∧ Below w1.heap.size w1 wr)
  case atStart => exact ⟨0, -1, 1000000, Nat.zero_le _, rfl, rfl, rfl, rfl, rfl, Below.refl _ _⟩
  case round =>
    obtain ⟨k, p, q, hk, hgk, rfl, rfl, rfl, hP, hb⟩ := hrel
    have HB := Lib.hid hb
    have HP := Lib.hid hP
    have Hgk := Lib.hid hgk
    have HOr := Lib.hid (HO1.out.below' hb)
    clear hb hP hgk
    by_cases hlt : k < n
    · obtain ⟨b, o, _, rfl, _⟩ := Layer.at_ HX1.out hlt
      have y0 := HOr.out.cell 0
      have y1 := HOr.out.cell 1
      have y2 := HOr.out.cell 2
      have y3 := HOr.out.cell 3
      have y4 := HOr.out.cell 4
      have ly := HOr.out.lt
      simp at y0 y1 y2 y3 y4
      go_wp2_with fail
      refine (index_ok b o n c k r u d mo xs _ (HX1.out.below HB.out) HV.out hlt hc hc2 hr hu hd hmo).mono ?_
      rintro e w2 ⟨rfl, hb2⟩
      have HB2 := Lib.hid (HB.out.trans (hb2.mono HB.out.size))
      obtain ⟨lo, hlo⟩ : ∃ lo, lowAt xs mo r u d k = lo := ⟨_, rfl⟩
      have HLO : Hid (f k = lo) := by rw [Hid, ← hlo, hf]
      obtain ⟨hi, hhi⟩ : ∃ hi, highAt xs mo r u d k = hi := ⟨_, rfl⟩
      rw [hlo, hhi]
      clear hb2 hlo hhi y0 y1 y2 y3 y4 ly
      by_cases hp0 : p < 0
      · have HP0 := Lib.hid hp0
        go_wp2
        go_roundg (n - (k + 1))
        case measure => have := Hgk.out; omega
        case rel => exact ⟨k + 1, k, lo, by omega, rfl, by go_num, rfl, rfl, by rw [weakN_step, HP.out, if_pos (.inl HP0.out), HLO.out], HB2.out⟩
      · have HP0 := Lib.hid hp0
        by_cases hq0 : lo < q
        · have HQ0 := Lib.hid hq0
          go_wp2
          go_roundg (n - (k + 1))
          case measure => have := Hgk.out; omega
          case rel => exact ⟨k + 1, k, lo, by omega, rfl, by go_num, rfl, rfl, by rw [weakN_step, HP.out, HLO.out, if_pos (.inr HQ0.out)], HB2.out⟩
        · have HQ0 := Lib.hid hq0
          go_wp2
          go_roundg (n - (k + 1))
          case measure => have := Hgk.out; omega
          case rel => exact ⟨k + 1, p, q, by omega, rfl, by go_num, rfl, rfl, by rw [weakN_step, HP.out, HLO.out, if_neg (fun h => h.elim (by have := HP0.out; show ¬ _; simp only; omega) (by have := HQ0.out; show ¬ _; simp only; omega))], HB2.out⟩
    · have hkn : k = n := by omega
      subst hkn
      go_wp2
      go_ret2
      exact Ret.ii (by rw [HP.out]) (by rw [HP.out]) (HB1.out.trans (HB.out.mono HB1.out.size))
set_option maxHeartbeats 1000000 in
theorem l07Weakest_ok (A : Option Addr) (n c : Nat) (r u d mo : Int) (xs : List Layer) (w : World) (hx : SliceOf w 7 Layer.cells A n xs) (hv : profB xs = true) (hc : n ≤ c) (hc2 : c ≤ 9223372036854775807) (hr : 0 ≤ r ∧ r ≤ 1000) (hu : 1 ≤ u ∧ u ≤ 1000) (hd : 0 ≤ d ∧ d ≤ 1000) (hmo : 0 ≤ mo ∧ mo ≤ 1000000) :
    Calls Try.prog 60 #[.slice A n c, .int .i64 mo, .int .i64 r, .int .i64 u, .int .i64 d] w (Ret (.tuple #[.int .i64 (weakN (lowAt xs mo r u d) 0 n).1, .int .i64 (weakN (lowAt xs mo r u d) 0 n).2]) w) := by
  have HX1 := Lib.hid hx
  have HV := Lib.hid hv
  have h16 : n ≤ 16 := by rw [← hx.len]; exact (profB_iff.1 hv).1
  obtain ⟨f, hf⟩ : ∃ f, lowAt xs mo r u d = f := ⟨_, rfl⟩
  rw [hf]
  clear hx hv
  go_enter Try.func60, Try.ntmps60
  go_wp2
  go_loopg [12, 13, 14] n (fun gk s4 s5 s12 wr => ∃ (k : Nat) (p q : Int), k ≤ n ∧ gk = n - k ∧ s12 = .int .i64 k ∧ s4 = .int .i64 p ∧ s5 = .int .i64 q ∧ weakN f 0 k = (p, q) ∧ Below w.heap.size w wr)
  case atStart => exact ⟨0, -1, 0, Nat.zero_le _, rfl, rfl, rfl, rfl, rfl, Below.refl _ _⟩
  case round =>
    obtain ⟨k, p, q, hk, hgk, rfl, rfl, rfl, hP, hb⟩ := hrel
    have HB := Lib.hid hb
    have HP := Lib.hid hP
    have Hgk := Lib.hid hgk
    clear hb hP hgk
    by_cases hlt : k < n
    · obtain ⟨b, o, _, rfl, _⟩ := Layer.at_ HX1.out hlt
      go_wp2_with fail
      refine (l07Index_ok b o n c k r u d mo xs _ (HX1.out.below HB.out) HV.out hlt hc hc2 hr hu hd hmo).mono ?_
      rintro e w2 ⟨rfl, hb2⟩
      have HB2 := Lib.hid (HB.out.trans (hb2.mono HB.out.size))
      obtain ⟨lo, hlo⟩ : ∃ lo, lowAt xs mo r u d k = lo := ⟨_, rfl⟩
      have HLO : Hid (f k = lo) := by rw [Hid, ← hlo, hf]
      obtain ⟨hi, hhi⟩ : ∃ hi, highAt xs mo r u d k = hi := ⟨_, rfl⟩
      rw [hlo, hhi]
      clear hb2 hlo hhi
      by_cases hp0 : p < 0
      · have HP0 := Lib.hid hp0
        go_wp2
        go_roundg (n - (k + 1))
        case measure => have := Hgk.out; omega
        case rel => exact ⟨k + 1, k, lo, by omega, rfl, by go_num, rfl, rfl, by rw [weakN_step, HP.out, if_pos (.inl HP0.out), HLO.out], HB2.out⟩
      · have HP0 := Lib.hid hp0
        by_cases hq0 : lo < q
        · have HQ0 := Lib.hid hq0
          go_wp2
          go_roundg (n - (k + 1))
          case measure => have := Hgk.out; omega
          case rel => exact ⟨k + 1, k, lo, by omega, rfl, by go_num, rfl, rfl, by rw [weakN_step, HP.out, HLO.out, if_pos (.inr HQ0.out)], HB2.out⟩
        · have HQ0 := Lib.hid hq0
          go_wp2
          go_roundg (n - (k + 1))
          case measure => have := Hgk.out; omega
          case rel => exact ⟨k + 1, p, q, by omega, rfl, by go_num, rfl, rfl, by rw [weakN_step, HP.out, HLO.out, if_neg (fun h => h.elim (by have := HP0.out; show ¬ _; simp only; omega) (by have := HQ0.out; show ¬ _; simp only; omega))], HB2.out⟩
    · have hkn : k = n := by omega
      subst hkn
      go_wp2
      go_ret2
      exact Ret.ii (by rw [HP.out]) (by rw [HP.out]) HB.out
set_option maxHeartbeats 1000000 in
theorem stable_ok (A : Option Addr) (n c : Nat) (r u d mo limit : Int) (xs : List Layer) (w : World) (hx : SliceOf w 7 Layer.cells A n xs) (hv : profB xs = true) (hc : n ≤ c) (hc2 : c ≤ 9223372036854775807) (hr : 0 ≤ r ∧ r ≤ 1000) (hu : 1 ≤ u ∧ u ≤ 1000) (hd : 0 ≤ d ∧ d ≤ 1000) (hmo : 0 ≤ mo ∧ mo ≤ 1000000) (hl : limit ≤ 1000000) :
    Calls Try.prog 32 #[.agg #[.slice A n c, .int .i64 r, .int .i64 u, .int .i64 d, .int .i64 mo], .int .i64 limit] w (Ret (.bool (stabB xs mo r u d limit)) w) := by
  have HX1 := Lib.hid (hx.below ((Below.refl _ w).alloc (Nat.le_refl _) (.cells #[.slice A n c, .int .i64 r, .int .i64 u, .int .i64 d, .int .i64 mo] 49)))
  have HV := Lib.hid hv
  have HS := Lib.hid (stabB_weak (L := xs) (more := mo) (rise := r) (run := u) (d := d) hl)
  rw [hx.len] at HS
  clear hx hv
  go_enter Try.func32, Try.ntmps32
  go_wp2_with fail
  refine (weakest_ok A n c r u d mo xs _ HX1.out HV.out hc hc2 hr hu hd hmo).mono ?_
  rintro e w2 ⟨rfl, hb2⟩
  have HB2 := Lib.hid (((Below.refl _ w).alloc (Nat.le_refl _) _).trans (hb2.mono (by simp)))
  clear hb2
  go_wp2
  go_ret
  exact Ret.b (by rw [HS.out]) HB2.out
set_option maxHeartbeats 1000000 in
theorem l07Stable_ok (A : Option Addr) (n c : Nat) (r u d mo limit : Int) (xs : List Layer) (w : World) (hx : SliceOf w 7 Layer.cells A n xs) (hv : profB xs = true) (hc : n ≤ c) (hc2 : c ≤ 9223372036854775807) (hr : 0 ≤ r ∧ r ≤ 1000) (hu : 1 ≤ u ∧ u ≤ 1000) (hd : 0 ≤ d ∧ d ≤ 1000) (hmo : 0 ≤ mo ∧ mo ≤ 1000000) (hl : limit ≤ 1000000) :
    Calls Try.prog 44 #[.slice A n c, .int .i64 mo, .int .i64 r, .int .i64 u, .int .i64 d, .int .i64 limit] w (Ret (.bool (stabB xs mo r u d limit)) w) := by
  have HX1 := Lib.hid hx
  have HV := Lib.hid hv
  have HS := Lib.hid (stabB_weak (L := xs) (more := mo) (rise := r) (run := u) (d := d) hl)
  rw [hx.len] at HS
  have HN : Hid (0 < n → weakN (lowAt xs mo r u d) 0 n = weakN (lowAt xs mo r u d) 1000000 n ∧ 0 ≤ (weakN (lowAt xs mo r u d) 1000000 n).1) := fun h => ⟨weakN_init _ _ _ _ h, weakN_neg _ _ _ h⟩
  clear hx hv
  go_enter Try.func44, Try.ntmps44
  go_wp2_with fail
  refine (l07Weakest_ok A n c r u d mo xs _ HX1.out HV.out hc hc2 hr hu hd hmo).mono ?_
  rintro e w2 ⟨rfl, hb2⟩
  have HB2 := Lib.hid hb2
  clear hb2
  by_cases hn : 0 < n
  · have hN := HN.out hn
    rw [hN.1]
    have hp := hN.2
    obtain ⟨P, hP⟩ : ∃ P, weakN (lowAt xs mo r u d) 1000000 n = P := ⟨_, rfl⟩
    rw [hP] at hp HS ⊢
    obtain ⟨p, q⟩ := P
    have hpn : decide (p < 0) = false := decide_eq_false (by simpa using hp)
    clear hN hP HN
    go_wp2
    go_ret
    exact Ret.b (by rw [HS.out]) HB2.out
  · have hn0 : n = 0 := by omega
    subst hn0
    have h1 : weakN (lowAt xs mo r u d) 0 0 = (-1, 0) := rfl
    have h2 : weakN (lowAt xs mo r u d) 1000000 0 = (-1, 1000000) := rfl
    rw [h1]
    rw [h2] at HS
    clear h1 h2 HN
    go_wp2
    go_ret
    exact Ret.b (by rw [HS.out]; simp; omega) HB2.out

end Go.Proofs.Ytmfghgoboibjdaa
