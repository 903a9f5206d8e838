/- When regions are valid: the reference. -/
import Derived.Test.YtpibiieibofggaaRegV
namespace Go.Proofs.Ytpibiieibofggaa
open Go.RowKit

theorem GoodTo.weak {α : Type} {one : α → Bool} {rel : α → α → Bool} {xs : List α} {n : Nat} (h : GoodTo one rel xs n) : GoodTo (fun _ => true) rel xs n := fun k x hk hx => ⟨rfl, (h k x hk hx).2⟩
set_option maxRecDepth 100000 in
set_option maxHeartbeats 2000000 in
theorem l18Ok_any (A : Option Addr) (n c : Nat) (xs : List Region) (w : World) (hx : Region.Sl w A n xs) (hg : ∀ x ∈ xs, x.Good) :
    Calls Try.prog 31 #[.slice A n c] w (Ret (.bool (regionsB xs)) w) := by
  have hn := hx.le
  have HL := Lib.hid hx.len
  have HX := Lib.hid hx
  have HG := Lib.hid hg
  clear hg hx
  by_cases h8 : n ≤ 8
  rotate_left
  · have HF : Hid (regionsB xs = false) := validL_len (by rw [HL.out]; omega)
    go_enter Try.func31, Try.ntmps31
    go_wp2
    go_ret
    exact Ret.b HF.out.symm (Below.refl _ _)
  go_enter Try.func31, Try.ntmps31
  go_wp2
  go_loopg [3] n (fun gk i wr => ∃ k : Nat, k ≤ n ∧ gk = n - k ∧ i = .int .i64 k ∧ Below w.heap.size w wr ∧ GoodTo (oneR xs) relR xs k)
  case atStart => exact ⟨0, Nat.zero_le _, rfl, rfl, Below.refl _ _, GoodTo.zero⟩
  case round =>
    obtain ⟨k, hk, hgk, rfl, hb, hall⟩ := hrel
    have Hall := Lib.hid hall
    have Hgk := Lib.hid hgk
    have HB := Lib.hid hb
    clear hall hgk
    by_cases hlt : k < n
    rotate_left
    · have hkn : k = n := by omega
      subst hkn
      have HF : Hid (regionsB xs = true) := by rw [Hid, regionsB, validL_all (by rw [HL.out]; exact Nat.le_refl _) Hall.out, HL.out, decide_eq_true h8]
      clear hb
      go_wp2
      go_ret
      exact Ret.b HF.out.symm HB.out
    have HXR := Lib.hid (HX.out.below hb)
    obtain ⟨b1, o1, ⟨xi, xl, NA, NN, NC, nr⟩, rfl, hb1, hxk, hix, y0, y1, y2⟩ := HXR.out.at_ hlt
    simp only [RegionR.val] at hxk y0 y1 y2
    obtain ⟨X, hX⟩ : ∃ X : Region, X = ⟨xi, xl, nr⟩ := ⟨_, rfl⟩
    rw [← hX] at hxk
    have hXi : X.id = xi := by rw [hX]
    have hXn : X.near = nr := by rw [hX]
    have hXl : X.level = xl := by rw [hX]
    have HXI := Lib.hid hXi
    have HXN := Lib.hid hXn
    have HXL := Lib.hid hXl
    have hs : xi.size ≤ 9223372036854775807 := by
      have := (HG.out X (List.mem_of_getElem? hxk)).2.1; rw [hXi] at this; simp [maxLen] at this; omega
    have Hx := Lib.hid hxk
    have HIA : Hid (SliceOf wr 1 strcells NA NN nr) := hix.1
    clear hxk hix hX hXi hXn hXl hb
    have hsub := fun (g : Sub wr) b o (h : b < wr.heap.size) => g.cell b o h
    cases h1 : isNameB xi
    · have HF : Hid (oneR xs X = false) := by rw [Hid, oneR, HXI.out, h1]; simp
      go_wp2_with fail
      refine wp_region_sub (by kernel_rfl) (by kernel_rfl) ?_
      repeat (go_big_quiet_step (exact Calls.sub_of_same_eq (l01Name_any _ _ hs) (congrArg Value.bool h1)))
      refine wpQuiet_nil ?_
      intro wg hg
      have HBG := Lib.hid (HB.out.trans (hg.mono HB.out.size))
      clear hsub y0 y1 y2 hg h1 hb1
      go_wp2
      go_ret
      exact Ret.b (validL_one Hx.out HF.out).symm HBG.out
    cases h2 : inB xl 1 5
    · have HF : Hid (oneR xs X = false) := by rw [Hid, oneR, HXL.out, h2]; simp
      go_wp2_with fail
      refine wp_region_sub (by kernel_rfl) (by kernel_rfl) ?_
      repeat (go_big_quiet_step ((first | exact Calls.sub_of_same_eq (l01Name_any _ _ hs) (congrArg Value.bool h1) | exact Calls.sub_of_same_eq (l17Is_any _ _) (congrArg Value.bool h2))))
      refine wpQuiet_nil ?_
      intro wg hg
      have HBG := Lib.hid (HB.out.trans (hg.mono HB.out.size))
      clear hsub y0 y1 y2 hg h1 h2 hb1
      go_wp2
      go_ret
      exact Ret.b (validL_one Hx.out HF.out).symm HBG.out
    have HN12 : Hid (isNameB X.id = true ∧ inB X.level 1 5 = true) := ⟨by rw [HXI.out]; exact h1, by rw [HXL.out]; exact h2⟩
    have hq3 : (decide (0 < k) = false) ∨ (decide (0 < k) = true ∧ (¬ k = 0 ∧ k - 1 < n) ∧ ∃ p : Region, xs[k - 1]? = some p ∧ wr.cell? ⟨b1, o1 + (k - 1) * 3, none⟩ = some (.string p.id) ∧ lessS p.id xi = true) ∨ (decide (0 < k) = true ∧ (¬ k = 0 ∧ k - 1 < n) ∧ ∃ p : Region, xs[k - 1]? = some p ∧ wr.cell? ⟨b1, o1 + (k - 1) * 3, none⟩ = some (.string p.id) ∧ lessS p.id xi = false) := by
      by_cases hk0 : k = 0
      · exact .inl (decide_eq_false (by omega))
      · have hlt' : k - 1 < n := by omega
        obtain ⟨b2, o2, p, he, hb2, hpk, hip, p0, p1, p2⟩ := HXR.out.at_ hlt'
        injection he with he
        injection he with he1 he2 _
        subst he1 he2
        cases hr : lessS p.val.id xi
        · exact .inr (.inr ⟨decide_eq_true (by omega), ⟨hk0, hlt'⟩, p.val, hpk, p0, hr⟩)
        · exact .inr (.inl ⟨decide_eq_true (by omega), ⟨hk0, hlt'⟩, p.val, hpk, p0, hr⟩)
    rcases hq3 with hd | ⟨hd, ⟨hk0, hlt'⟩, p, hpk, p0, hr⟩ | ⟨hd, ⟨hk0, hlt'⟩, p, hpk, p0, hr⟩
    rotate_left 2
    · have HF : Hid (relR p X = false) := by rw [Hid, relR, HXI.out]; exact hr
      have HPK := Lib.hid hpk
      have hr1 : Go.Op.bytesLess p.id.toList xi.toList = false := hr
      have HK0 : Hid (0 < k) := (of_decide_eq_true hd : 0 < k)
      clear hr hpk
      go_wp2_with fail
      refine wp_region_sub (by kernel_rfl) (by kernel_rfl) ?_
      repeat (go_big_quiet_step ((first | exact Calls.sub_of_same_eq (l01Name_any _ _ hs) (congrArg Value.bool h1) | exact Calls.sub_of_same_eq (l17Is_any _ _) (congrArg Value.bool h2))))
      refine wpQuiet_nil ?_
      intro wg hg
      have HBG := Lib.hid (HB.out.trans (hg.mono HB.out.size))
      clear hsub y0 y1 y2 hg h1 h2 p0 hr1 hd hlt' hk0 hb1
      go_wp2
      go_ret
      exact Ret.b (validL_rel HK0.out HPK.out Hx.out HF.out).symm HBG.out
    have HREL : Hid (∀ q, 0 < k → xs[k - 1]? = some q → relR q X = true) := fun q h => absurd h (of_decide_eq_false hd : ¬ 0 < k)
    rotate_left
    have HREL : Hid (∀ q, 0 < k → xs[k - 1]? = some q → relR q X = true) := fun q _ hq => by rw [hpk] at hq; cases hq; rw [relR, HXI.out]; exact hr
    have hr1 : Go.Op.bytesLess p.id.toList xi.toList = true := hr
    clear hr hpk
    all_goals
      have HUP : Hid (GoodTo (fun _ => true) relR xs (k + 1)) := Hall.out.weak.step Hx.out rfl HREL.out
      go_wp2_with fail
      refine wp_region_sub (by kernel_rfl) (by kernel_rfl) ?_
      repeat (go_big_quiet_step ((first | exact Calls.sub_of_same_eq (l01Name_any _ _ hs) (congrArg Value.bool h1) | exact Calls.sub_of_same_eq (l17Is_any _ _) (congrArg Value.bool h2))))
      refine wpQuiet_nil ?_
      intro wg hg
      have HBG := Lib.hid (HB.out.trans (hg.mono HB.out.size))
      have HXG := Lib.hid (HXR.out.below hg)
      have HIG := Lib.hid (HIA.out.below hg)
      have HYG : Hid (wg.cell? ⟨b1, o1 + k * 3, none⟩ = some (.string xi) ∧ wg.cell? ⟨b1, o1 + k * 3 + 2, none⟩ = some (.slice NA NN NC)) := ⟨(hg.cell hb1).trans y0, (hg.cell hb1).trans y2⟩
      have HLB : Hid (b1 < wg.heap.size) := Nat.lt_of_lt_of_le hb1 hg.size
      clear hsub y0 y1 y2 hg h1 h2 hd
      try clear p0 hr1 hlt' hk0
      have hNN := HIG.out.le
      go_wp2
      go_loopg [5] NN (fun gk i wq => ∃ t : Nat, t ≤ NN ∧ gk = NN - t ∧ i = .int .i64 t ∧ Below wg.heap.size wg wq ∧ GoodTo (nearB xs X) lessS nr t)
      case atStart => exact ⟨0, Nat.zero_le _, rfl, rfl, Below.refl _ _, GoodTo.zero⟩
      case round =>
        obtain ⟨t, ht, hgt, rfl, hb2, hall2⟩ := hrel
        have HA2 := Lib.hid hall2
        have HGT := Lib.hid hgt
        have HB2 := Lib.hid hb2
        have HXQ := Lib.hid (HXG.out.below hb2)
        have HIQ := Lib.hid (HIG.out.below hb2)
        have hlb : b1 < wr.heap.size := Nat.lt_of_lt_of_le HLB.out hb2.size
        have y0 : wr.cell? ⟨b1, o1 + k * 3, none⟩ = some (.string xi) := (hb2.cell HLB.out).trans HYG.out.1
        have y2 : wr.cell? ⟨b1, o1 + k * 3 + 2, none⟩ = some (.slice NA NN NC) := (hb2.cell HLB.out).trans HYG.out.2
        clear hall2 hgt hb2
        by_cases htl : t < NN
        rotate_left
        · have htn : t = NN := by omega
          subst htn
          have HO1 : Hid (oneR xs X = true) := by
            rw [Hid, oneR, HN12.out.1, HN12.out.2, nearsB, HXN.out, validL_all (by rw [HIG.out.len]; exact Nat.le_refl _) HA2.out, HIG.out.len, decide_eq_true hNN]; rfl
          have HBW := Lib.hid (HBG.out.trans (HB2.out.mono HBG.out.size))
          go_wp2
          go_roundg (n - (k + 1))
          case measure => have := Hgk.out; omega
          case rel => exact ⟨k + 1, by omega, rfl, by go_num, HBW.out, Hall.out.step Hx.out HO1.out HREL.out⟩
        obtain ⟨b3, o3, nm, rfl, hb3, hnm, z0⟩ := strs_at HIQ.out htl
        have HNM := Lib.hid hnm
        have HFN : Hid (nearB xs X nm = false → regionsB xs = false) := fun h => validL_one Hx.out (by rw [oneR, nearsB, validL_one (by rw [HXN.out]; exact HNM.out) h]; simp)
        have HFA := Lib.hid (find_at (nm := nm) HUP.out Hx.out)
        have HZ0 := Lib.hid z0
        clear hnm
        go_wp2_with fail
        refine (l18Find_any nm _ _ _ xs _ HXQ.out).mono ?_
        rintro e w5 ⟨rfl, rfl⟩
        rcases link_cases xs nm xi with ⟨hf1, hf2⟩ | ⟨j, Y, hY, hf2, hf3, hf4⟩
        · have HF : Hid (regionsB xs = false) := HFN.out (by rw [nearB, HXI.out, hf2]; simp)
          rw [hf1]
          clear hf1 hf2
          have hsub := fun (g : Sub wr) b o (h : b < wr.heap.size) => g.cell b o h
          go_wp2_with fail
          refine wp_region_sub (by kernel_rfl) (by kernel_rfl) ?_
          repeat (go_big_quiet_step (fail))
          refine wpQuiet_nil ?_
          intro wg hg
          have HBW := Lib.hid (HBG.out.trans ((HB2.out.trans (hg.mono HB2.out.size)).mono HBG.out.size))
          clear hsub y0 y2 hlb hg z0
          go_wp2
          go_ret
          exact Ret.b HF.out.symm HBW.out
        have hj0 : decide ((j : Int) < 0) = false := decide_eq_false (by omega)
        have hj1 : (0 : Int) ≤ (j : Int) := by omega
        have HF4 := Lib.hid hf4
        have HF3 := Lib.hid hf3
        rw [hf3] at HFA ⊢
        have hjn : j < n := by rw [← HL.out]; exact (List.getElem?_eq_some_iff.1 hY).1
        obtain ⟨b2, o2, ⟨yi, yl, MA, MN, MC, mr⟩, he, hb2, hyk, hiy, v0, v1, v2⟩ := HXQ.out.at_ hjn
        injection he with he
        injection he with he1 he2 _
        subst he1 he2
        simp only [RegionR.val] at hyk v0 v1 v2
        have hYn : Y.near = mr := by rw [hY] at hyk; injection hyk with hyk; rw [hyk]
        have HMR : Hid (SliceOf wr 1 strcells MA MN mr) := hiy.1
        rw [hYn] at HF4
        clear hf2 hf3 hf4 hY hyk hiy hYn v0 v1
        have hsub := fun (g : Sub wr) b o (h : b < wr.heap.size) => g.cell b o h
        by_cases hne : nm = xi
        · have HF : Hid (regionsB xs = false) := HFN.out (by rw [nearB, HXI.out, hne]; simp)
          have hq : ((j : Int) == (k : Int)) = true := by rw [HFA.out, HXI.out]; simp [hne]
          clear hne
          go_wp2_with fail
          refine wp_region_sub (by kernel_rfl) (by kernel_rfl) ?_
          repeat (go_big_quiet_step (fail))
          refine wpQuiet_nil ?_
          intro wg hg
          have HBW := Lib.hid (HBG.out.trans ((HB2.out.trans (hg.mono HB2.out.size)).mono HBG.out.size))
          clear hsub y0 y2 hlb hg z0 v2 hq
          go_wp2
          go_ret
          exact Ret.b HF.out.symm HBW.out
        have hq : ((j : Int) == (k : Int)) = false := by rw [HFA.out, HXI.out]; simp [hne]
        have HNE := Lib.hid hne
        clear hne
        have hq3 : (decide (0 < t) = false) ∨ (decide (0 < t) = true ∧ (¬ t = 0 ∧ t - 1 < NN) ∧ ∃ p : ByteArray, nr[t - 1]? = some p ∧ wr.cell? ⟨b3, o3 + (t - 1), none⟩ = some (.string p) ∧ lessS p nm = true) ∨ (decide (0 < t) = true ∧ (¬ t = 0 ∧ t - 1 < NN) ∧ ∃ p : ByteArray, nr[t - 1]? = some p ∧ wr.cell? ⟨b3, o3 + (t - 1), none⟩ = some (.string p) ∧ lessS p nm = false) := by
          by_cases hk0 : t = 0
          · exact .inl (decide_eq_false (by omega))
          · have hlt' : t - 1 < NN := by omega
            obtain ⟨b2, o2, p, he, hb2, hpk, p0⟩ := strs_at HIQ.out hlt'
            injection he with he
            injection he with he1 he2 _
            subst he1 he2
            cases hr : lessS p nm
            · exact .inr (.inr ⟨decide_eq_true (by omega), ⟨hk0, hlt'⟩, p, hpk, p0, hr⟩)
            · exact .inr (.inl ⟨decide_eq_true (by omega), ⟨hk0, hlt'⟩, p, hpk, p0, hr⟩)
        rcases hq3 with hd | ⟨hd, ⟨hk0, hlt'⟩, p, hpk, p0, hr⟩ | ⟨hd, ⟨hk0, hlt'⟩, p, hpk, p0, hr⟩
        rotate_left 2
        · have HF : Hid (regionsB xs = false) := validL_one Hx.out (by rw [oneR, nearsB, validL_rel (of_decide_eq_true hd) (by rw [HXN.out]; exact hpk) (by rw [HXN.out]; exact HNM.out) hr]; simp)
          have hr1 : Go.Op.bytesLess p.toList nm.toList = false := hr
          clear hr hpk
          go_wp2_with fail
          refine wp_region_sub (by kernel_rfl) (by kernel_rfl) ?_
          repeat (go_big_quiet_step (fail))
          refine wpQuiet_nil ?_
          intro wg hg
          have HBW := Lib.hid (HBG.out.trans ((HB2.out.trans (hg.mono HB2.out.size)).mono HBG.out.size))
          clear hsub y0 y2 hlb hg z0 v2 hq p0 hr1 hd hlt' hk0
          go_wp2
          go_ret
          exact Ret.b HF.out.symm HBW.out
        have HRE : Hid (∀ q, 0 < t → nr[t - 1]? = some q → lessS q nm = true) := fun q h => absurd h (of_decide_eq_false hd : ¬ 0 < t)
        rotate_left
        have HRE : Hid (∀ q, 0 < t → nr[t - 1]? = some q → lessS q nm = true) := fun q _ hq => by rw [hpk] at hq; cases hq; exact hr
        have hr1 : Go.Op.bytesLess p.toList nm.toList = true := hr
        clear hr hpk
        all_goals
          cases hlk : hasS mr xi
          · have HF : Hid (regionsB xs = false) := HFN.out (by rw [nearB, HXI.out, HF4.out, hlk]; simp)
            go_wp2_with fail
            refine wp_region_sub (by kernel_rfl) (by kernel_rfl) ?_
            repeat (go_big_quiet_step (exact Calls.sub_of_same_eq (l18Near_any xi _ _ _ _ _ mr _ (HMR.out.below (Sub.below _)) ((hsub _ _ _ hlb).trans v2)) (congrArg Value.bool hlk)))
            refine wpQuiet_nil ?_
            intro wg hg
            have HBW := Lib.hid (HBG.out.trans ((HB2.out.trans (hg.mono HB2.out.size)).mono HBG.out.size))
            clear hsub y0 y2 hlb hg z0 v2 hq hd hlk
            try clear p0 hr1 hlt' hk0
            go_wp2
            go_ret
            exact Ret.b HF.out.symm HBW.out
          · have HF : Hid (nearB xs X nm = true) := by rw [Hid, nearB, HXI.out, HF4.out, hlk, decide_eq_true HNE.out]; rfl
            go_wp2_with fail
            refine wp_region_sub (by kernel_rfl) (by kernel_rfl) ?_
            repeat (go_big_quiet_step (exact Calls.sub_of_same_eq (l18Near_any xi _ _ _ _ _ mr _ (HMR.out.below (Sub.below _)) ((hsub _ _ _ hlb).trans v2)) (congrArg Value.bool hlk)))
            refine wpQuiet_nil ?_
            intro wg hg
            have HBW := Lib.hid (HB2.out.trans (hg.mono HB2.out.size))
            clear hsub y0 y2 hlb hg z0 v2 hq hd hlk
            try clear p0 hr1 hlt' hk0
            go_wp2
            go_roundg (NN - (t + 1))
            case measure => have := HGT.out; omega
            case rel => exact ⟨t + 1, by omega, rfl, by go_num, HBW.out, HA2.out.step HNM.out HF.out HRE.out⟩

end Go.Proofs.Ytpibiieibofggaa
