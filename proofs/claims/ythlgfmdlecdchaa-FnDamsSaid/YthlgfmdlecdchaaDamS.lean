/- The best cell to raise, on both sides. -/
import Derived.Test.YthlgfmdlecdchaaDamG
import Derived.Test.YthlgfmdlecdchaaDamP
import Derived.Test.YthlgfmdlecdchaaRunA
import Derived.Test.YthlgfmdlecdchaaRunB
import Derived.Test.YthlgfmdlecdchaaRunE
import Derived.Test.YthlgfmdlecdchaaExposed
import Derived.Test.YthlgfmdlecdchaaExposeT
import Derived.Test.YthlgfmdlecdchaaSpecRun
import Derived.Test.YthlgfmdlecdchaaImplRun
import Derived.Test.YthlgfmdlecdchaaRunCode
import Derived.Test.YthlgfmdlecdchaaRunCode2
import Derived.Deep.RegionHeld3
namespace Go.Proofs.Ythlgfmdlecdchaa
open Go.RowKit

theorem Ret.iiiD {j k l : IntKind} {m n p q r s : Int} {w w' : World} (h : m = n) (h' : p = q) (h'' : r = s) (hb : Below w.heap.size w w') : Ret (.tuple #[.int j n, .int k q, .int l s]) w (.returned (.tuple #[.int j m, .int k p, .int l r])) w' := ⟨by rw [h, h', h''], hb⟩
theorem dam_one {g : Grid} {xs : List Asset} {ms : List Int} {fr b C : Int} (h : damC g xs ms fr b = C) (hC : C ≠ 0) : damA g xs ms fr b = 0 ∧ damV g xs ms fr b = 0 ∧ damK g xs ms fr b = C := by
  have h2 := dam_no (g := g) (xs := xs) (ms := ms) (fr := fr) (b := b) (by rw [h]; exact hC)
  exact ⟨h2.2.1, h2.2.2, h2.1.trans h⟩
theorem dam_end {g : Grid} {xs : List Asset} {ms : List Int} {fr b q1 q2 : Int} (h : damC g xs ms fr b = 0) (hq : damT g xs ms fr b ms.length = (q1, q2)) : (q1 < 0 → damA g xs ms fr b = 0 ∧ damV g xs ms fr b = 0 ∧ damK g xs ms fr b = 3) ∧ (¬ q1 < 0 → damA g xs ms fr b = q1 ∧ damV g xs ms fr b = q2 ∧ damK g xs ms fr b = 0) := by
  unfold damA damV damK damB
  rw [if_pos h, if_pos h, if_pos h, hq]
  refine ⟨fun hn => ?_, fun hn => ?_⟩
  · rw [if_pos hn, if_pos hn, if_pos hn]; exact ⟨rfl, rfl, rfl⟩
  · rw [if_neg hn, if_neg hn, if_neg hn]; exact ⟨rfl, rfl, rfl⟩
theorem intsD {w : World} {b o n : Nat} {xs : List Int} (h : SliceOf w 1 i64cells (some ⟨b, o, none⟩) n xs) {k : Nat} (hk : k < n) : ∃ x, xs[k]? = some x ∧ w.cell? ⟨b, o + k, none⟩ = some (.int .i64 x) ∧ b < w.heap.size := by
  obtain ⟨b', o', x, hA, hb, hx, hc⟩ := ints_at h hk
  injection hA with hA
  injection hA with e1 e2 _
  subst e1 e2
  exact ⟨x, hx, hc, hb⟩
structure BoxD (X : Nat) (g : GridR) (w : World) : Prop where
  own : Own w X 26 #[.int .i64 g.rows, .int .i64 g.columns, .int .i64 g.size, .slice g.heightsA g.heightsN g.heightsC]
  gi : g.In w
theorem BoxD.grow {X : Nat} {g : GridR} {w w' : World} (h : BoxD X g w) (hb : Below w.heap.size w w') : BoxD X g w' := ⟨h.own.below' hb, h.gi.below hb⟩
theorem BoxD.cells {X : Nat} {g : GridR} {w : World} (h : BoxD X g w) : w.cell? ⟨X, 0, none⟩ = some (.int .i64 g.rows) ∧ w.cell? ⟨X, 1, none⟩ = some (.int .i64 g.columns) ∧ w.cell? ⟨X, 2, none⟩ = some (.int .i64 g.size) ∧ w.cell? ⟨X, 3, none⟩ = some (.slice g.heightsA g.heightsN g.heightsC) ∧ X < w.heap.size :=
  ⟨h.own.cell 0, h.own.cell 1, h.own.cell 2, h.own.cell 3, h.own.lt⟩
theorem BoxD.ht {X : Nat} {g : GridR} {w : World} (h : BoxD X g w) {a o : Nat} (hA : g.heightsA = some ⟨a, o, none⟩) {k : Nat} (hk : k < g.heightsN) : ∃ y, g.heights[k]? = some y ∧ w.cell? ⟨a, o + k, none⟩ = some (.int .i64 y) ∧ a < w.heap.size := by
  have h1 := h.gi.1
  rw [hA] at h1
  exact intsD h1 hk
set_option maxRecDepth 100000 in
set_option maxHeartbeats 600000 in
theorem specBestDam_any (g : GridR) (A : Option Addr) (n c : Nat) (xs : List Asset) (B : Option Addr) (m d : Nat) (ms : List Int) (fr b : Int) (w : World) (hgi : g.In w) (hx : Asset.Sl w A n xs) (hg : ∀ x ∈ xs, x.Good) (hr : SliceOf w 1 i64cells B m ms) :
    Calls Try.prog 19 #[.agg #[.int .i64 g.rows, .int .i64 g.columns, .int .i64 g.size, .slice g.heightsA g.heightsN g.heightsC], .slice A n c, .slice B m d, .int .i64 fr, .int .i64 b] w (Ret (.tuple #[.int .i64 (damA g.val xs ms fr b), .int .i64 (damV g.val xs ms fr b), .int .i64 (damK g.val xs ms fr b)]) w) := by
  have hB : Below w.heap.size w (w.alloc (.cells #[.int .i64 g.rows, .int .i64 g.columns, .int .i64 g.size, .slice g.heightsA g.heightsN g.heightsC] 26)) := (Below.refl _ _).alloc (Nat.le_refl _) _
  have HO := Lib.hid (BoxD.mk (Own.new w 26 #[.int .i64 g.rows, .int .i64 g.columns, .int .i64 g.size, .slice g.heightsA g.heightsN g.heightsC]) (hgi.below hB))
  have HB := Lib.hid hB
  have HX := Lib.hid (hx.below hB)
  have HR := Lib.hid (hr.below hB)
  have HGL := Lib.hid hgi.1.len
  have HXl := Lib.hid hx.len
  have HRl := Lib.hid hr.len
  have hrn := hr.le
  have hgn := hgi.1.le
  obtain ⟨X, hX⟩ : ∃ X, w.heap.size = X := ⟨_, rfl⟩
  obtain ⟨w0, hw0⟩ : ∃ w0, w.alloc (.cells #[.int .i64 g.rows, .int .i64 g.columns, .int .i64 g.size, .slice g.heightsA g.heightsN g.heightsC] 26) = w0 := ⟨_, rfl⟩
  have HXX := Lib.hid hX
  have HW0 := Lib.hid hw0
  rw [hw0] at HO HX HR HB
  rw [hX] at HO
  clear hgi hB hr hx
  obtain ⟨y0, y1, y2, y3, ly⟩ := HO.out.cells
  go_enter Try.func19, Try.ntmps19
  go_wp2_with fail
  try rw [hw0]
  try rw [hX]
  clear hw0 hX y0 y1 y2 y3 ly
  refine (l09Ok_any g X 0 w0 HO.out.gi HO.out.own.lt (HO.out.own.cell 0) (HO.out.own.cell 1) (HO.out.own.cell 2) (HO.out.own.cell 3)).mono ?_
  rintro e w1 ⟨rfl, hb1⟩
  have HO1 := Lib.hid (HO.out.grow hb1)
  have HX1 := Lib.hid (HX.out.below hb1)
  have HR1 := Lib.hid (HR.out.below hb1)
  have HB1 := Lib.hid (HB.out.trans (hb1.mono HB.out.size))
  clear hb1
  cases hgb : gridB g.val
  · have HE := Lib.hid (dam_one (g := g.val) (xs := xs) (ms := ms) (fr := fr) (b := b) (C := 1) (by unfold damC; rw [if_pos (by unfold assetsB; rw [hgb, Bool.false_and])]) (by omega))
    go_wp2
    go_ret3
    exact Ret.iiiD HE.out.1.symm HE.out.2.1.symm HE.out.2.2.symm HB1.out
  have hp := (gridB_iff g.val).1 hgb
  have HM := Lib.hid (mul_i64 (inB_iff.1 hp.1) (inB_iff.1 hp.2.1))
  have HL : Hid (g.rows * g.columns = (g.heightsN : Int)) := by have h := of_decide_eq_true hp.2.2.2.1; exact h.symm.trans (congrArg (fun k : Nat => (k : Int)) HGL.out)
  have HV : Hid (assetsB g.val xs = Asset.validB (g.heightsN : Int) xs) := by rw [Hid]; unfold assetsB; rw [hgb, Bool.true_and, show g.val.heights.length = g.heightsN from HGL.out]
  clear hp
  go_wp2_with fail
  refine (l15List_any g X 0 A n c xs (g.heightsN : Int) w1 HX1.out hg HM.out.1 HL.out (by omega) (by omega) HO1.out.own.lt (HO1.out.own.cell 0) (HO1.out.own.cell 1)).mono ?_
  rintro e w2 ⟨rfl, hb2⟩
  have HO2 := Lib.hid (HO1.out.grow hb2)
  have HX2 := Lib.hid (HX1.out.below hb2)
  have HR2 := Lib.hid (HR1.out.below hb2)
  have HB2 := Lib.hid (HB1.out.trans (hb2.mono HB1.out.size))
  clear hb2
  cases hv : Asset.validB (g.heightsN : Int) xs
  · have HE := Lib.hid (dam_one (g := g.val) (xs := xs) (ms := ms) (fr := fr) (b := b) (C := 1) (by unfold damC; rw [if_pos (by rw [HV.out, hv])]) (by omega))
    go_wp2
    go_ret3
    exact Ret.iiiD HE.out.1.symm HE.out.2.1.symm HE.out.2.2.symm HB2.out
  have HA1 : Hid (assetsB g.val xs = true) := by rw [Hid, HV.out, hv]
  clear hv hgb
  go_wp2_with fail
  refine (l15By_any b w2).mono ?_
  rintro e w' ⟨rfl, rfl⟩
  cases hby : inB b 0 100
  · have HE := Lib.hid (dam_one (g := g.val) (xs := xs) (ms := ms) (fr := fr) (b := b) (C := 2) (by unfold damC; rw [if_neg (by rw [HA1.out]; simp), if_pos hby]) (by omega))
    go_wp2
    go_ret3
    exact Ret.iiiD HE.out.1.symm HE.out.2.1.symm HE.out.2.2.symm HB2.out
  have HDC : Hid (damC g.val xs ms fr b = runC g.val ms fr) := by rw [Hid]; unfold damC; rw [if_neg (by rw [HA1.out]; simp), if_neg (by rw [hby]; simp)]
  clear hby
  go_wp2_with fail
  refine (l13Ask_any g X 0 B m d ms fr w2 HO2.out.gi HR2.out HO2.out.own.lt (HO2.out.own.cell 0) (HO2.out.own.cell 1) (HO2.out.own.cell 2) (HO2.out.own.cell 3)).mono ?_
  rintro e w3 ⟨rfl, hb3⟩
  have HO3 := Lib.hid (HO2.out.grow hb3)
  have HX3 := Lib.hid (HX2.out.below hb3)
  have HR3 := Lib.hid (HR2.out.below hb3)
  have HB3 := Lib.hid (HB2.out.trans (hb3.mono HB2.out.size))
  clear hb3
  by_cases hc0 : runC g.val ms fr = 0
  rotate_left
  · have hne : (runC g.val ms fr != 0) = true := by simp [hc0]
    have HE := Lib.hid (dam_one HDC.out hc0)
    clear hc0
    go_wp2
    go_ret3
    exact Ret.iiiD HE.out.1.symm HE.out.2.1.symm HE.out.2.2.symm HB3.out
  have hc : damC g.val xs ms fr b = 0 := HDC.out.trans hc0
  rw [hc0]
  obtain ⟨hav, hby2, hk, hrc⟩ := damC_zero hc
  have HAV := Lib.hid hav
  have HK := Lib.hid hk
  have HWO := Lib.hid (worths hav)
  obtain ⟨hb0, hb1'⟩ := hby2
  have hmN : m = g.heightsN := hk.n HO3.out.gi HR3.out
  have h64 : g.heightsN ≤ 64 := by rw [← hmN, ← HRl.out]; exact (runOk_n64 hk).2
  have h1N : 1 ≤ g.heightsN := by rw [← hmN, ← HRl.out]; exact (runOk_n64 hk).1
  obtain ⟨ga, go, _, hA, -, -, -⟩ := ints_at HO3.out.gi.1 (show 0 < g.heightsN by omega)
  obtain ⟨ra, ro, _, rfl, -, -, -⟩ := ints_at HR3.out (show 0 < m by omega)
  have HGA := Lib.hid hA
  have HC := Lib.hid hc
  clear hav hk hA
  subst hmN
  have hmw : IntKind.i64.wrap (g.rows * g.columns) = (g.heightsN : Int) := by rw [← HL.out]; exact HM.out.1
  clear hc hc0 hrc HA1
  go_wp2
  go_loopg [14, 15, 16] g.heightsN (fun gk s14 s15 s16 wr => ∃ (k : Nat) (q1 q2 : Int), k ≤ g.heightsN ∧ gk = g.heightsN - k ∧ s14 = .int .i64 q1 ∧ s15 = .int .i64 q2 ∧ s16 = .int .i64 k ∧ damT g.val xs ms fr b k = (q1, q2) ∧ Below w3.heap.size w3 wr)
  case atStart => exact ⟨0, -1, 0, Nat.zero_le _, rfl, rfl, rfl, rfl, rfl, Below.refl _ _⟩
  case round =>
    obtain ⟨k, q1, q2, hk, hgk, rfl, rfl, rfl, hq, hb⟩ := hrel
    have Hgk := Lib.hid hgk
    have HQ := Lib.hid hq
    have HBB := Lib.hid hb
    have HOr := Lib.hid (HO3.out.grow hb)
    have HXr := Lib.hid (HX3.out.below hb)
    have HRr := Lib.hid (HR3.out.below hb)
    have HBr := Lib.hid (HB3.out.trans (hb.mono HB3.out.size))
    clear hgk hq hb
    obtain ⟨y0, y1, y2, y3, ly⟩ := HOr.out.cells
    by_cases hlt : k < g.heightsN
    rotate_left
    · have hkn : k = g.heightsN := by omega
      have hkm : ¬ ((k : Int) < (g.heightsN : Int)) := by omega
      have hend := dam_end HC.out (q1 := q1) (q2 := q2) (by rw [HRl.out, ← hkn]; exact HQ.out)
      clear hkn
      by_cases hq1 : q1 < 0
      · have HE := Lib.hid (hend.1 hq1)
        clear hend
        go_wp2
        go_ret3
        exact Ret.iiiD HE.out.1.symm HE.out.2.1.symm HE.out.2.2.symm HBr.out
      · have HE := Lib.hid (hend.2 hq1)
        have hq1d : decide (q1 < 0) = false := decide_eq_false hq1
        clear hend
        go_wp2
        go_ret3
        exact Ret.iiiD HE.out.1.symm HE.out.2.1.symm HE.out.2.2.symm HBr.out
    rw [HGA.out] at y3
    have hkI : (k : Int) < (g.heightsN : Int) := by omega
    obtain ⟨y, hyk, ycell, glt⟩ := HOr.out.ht HGA.out hlt
    obtain ⟨mm, hmk, mcell, mlt⟩ := intsD HRr.out hlt
    have hybd := heights_bd HK.out.grid hyk
    have HOK := Lib.hid (damOk_of (g := g.val) (b := b) hmk hyk)
    have HYK := Lib.hid hyk
    have hws : IntKind.i64.wrap (y + b) = y + b := IntWalk.i64_in _ (by omega)
    clear hmk hyk
    by_cases h5 : 5000 < y + b
    · have hd5 : decide (5000 < y + b) = true := decide_eq_true h5
      have HT := Lib.hid (damT_no (g := g.val) (xs := xs) (ms := ms) (fr := fr) (b := b) (c := k) (by rw [HOK.out, decide_eq_false (show ¬ y + b ≤ 5000 by omega), Bool.and_false]))
      go_wp2
      go_roundg (g.heightsN - (k + 1))
      case measure => have := Hgk.out; omega
      case rel => exact ⟨k + 1, q1, q2, by omega, rfl, rfl, rfl, by go_num, by rw [HT.out, HQ.out], HBB.out⟩
    have hd5 : decide (5000 < y + b) = false := decide_eq_false h5
    by_cases hmp : 0 < mm
    · have hdm : decide (0 < mm) = true := decide_eq_true hmp
      have HT := Lib.hid (damT_no (g := g.val) (xs := xs) (ms := ms) (fr := fr) (b := b) (c := k) (by rw [HOK.out, decide_eq_false (show ¬ mm ≤ 0 by omega), Bool.false_and]))
      go_wp2
      go_roundg (g.heightsN - (k + 1))
      case measure => have := Hgk.out; omega
      case rel => exact ⟨k + 1, q1, q2, by omega, rfl, rfl, rfl, by go_num, by rw [HT.out, HQ.out], HBB.out⟩
    have hdm : decide (0 < mm) = false := decide_eq_false hmp
    have hok : damOk g.val ms b k = true := by rw [HOK.out, decide_eq_true (show mm ≤ 0 by omega), decide_eq_true (show y + b ≤ 5000 by omega)]; rfl
    have HOKT := Lib.hid hok
    have HKR := Lib.hid (raise_ok (c := k) HK.out hb0 HYK.out (by omega))
    clear hok
    go_wp2_with fail
    refine (l15Raise_any g X k b y wr HOr.out.gi HOr.out.own h64 HYK.out (by omega) (by omega)).mono ?_
    rintro e w5 ⟨p, rfl, hpi, _, hpv, hb5⟩
    obtain ⟨Y, hY⟩ : ∃ Y, w5.heap.size = Y := ⟨_, rfl⟩
    obtain ⟨w6, hw6⟩ : ∃ w6, w5.alloc (.cells #[.int .i64 p.rows, .int .i64 p.columns, .int .i64 p.size, .slice p.heightsA p.heightsN p.heightsC] 26) = w6 := ⟨_, rfl⟩
    have hb56 : Below w5.heap.size w5 w6 := by rw [← hw6]; exact (Below.refl _ _).alloc (Nat.le_refl _) _
    have hb6 := hb5.trans (hb56.mono hb5.size)
    have HOp : Hid (BoxD Y p w6) := ⟨by rw [← hw6, ← hY]; exact Own.new _ _ _, hpi.below hb56⟩
    have HX6 := Lib.hid (HXr.out.below hb6)
    have HR6 := Lib.hid (HRr.out.below hb6)
    have HB6 := Lib.hid (HBB.out.trans (hb6.mono HBB.out.size))
    have HKP : Hid (RunOk p.val ms fr) := by rw [Hid, hpv]; exact HKR.out
    have HPV := Lib.hid hpv
    clear hpi hpv hb5 hb56 hb6 y0 y1 y2 y3 ly ycell mcell glt mlt
    obtain ⟨y0, y1, y2, y3, ly⟩ := HOp.out.cells
    go_wp2_with fail
    try rw [hw6]
    try rw [hY]
    clear hw6 hY y0 y1 y2 y3 ly
    refine (l13Reached_any p Y 0 _ g.heightsN d ms fr w6 HOp.out.gi HKP.out HR6.out HOp.out.own.lt (HOp.out.own.cell 0) (HOp.out.own.cell 1) (HOp.out.own.cell 2) (HOp.out.own.cell 3)).mono ?_
    rintro e w7 ⟨v, rfl, hv, hb7⟩
    obtain ⟨Q, hQE⟩ : ∃ Q, reachL p.val ms fr = Q := ⟨_, rfl⟩
    have HQE := Lib.hid hQE
    rw [hQE] at hv
    obtain ⟨QA, qc, rfl, _, _, hqs⟩ := hv.slice i64cells_len
    have HQS := Lib.hid hqs
    have HX7 := Lib.hid (HX6.out.below hb7)
    have HBB7 := Lib.hid (HB6.out.trans (hb7.mono HB6.out.size))
    clear hv hqs hb7 hQE
    go_wp2_with fail
    refine (l15Worth_any A n c xs QA Q.length qc Q w7 HX7.out HQS.out HWO.out.1 (by rw [← HXl.out]; exact HWO.out.2)).mono ?_
    rintro e w8 ⟨rfl, hb8⟩
    have HBB8 := Lib.hid (HBB7.out.trans (hb8.mono HBB7.out.size))
    obtain ⟨W, hW⟩ : ∃ W, worthT Q xs n = W := ⟨_, rfl⟩
    have HWW : Hid (damW g.val xs ms fr b k = W) := by rw [Hid]; unfold damW; rw [← HPV.out, HQE.out, HXl.out, hW]
    rw [hW]
    clear hW hb8
    by_cases hq1 : q1 < 0
    · have hd1 : decide (q1 < 0) = true := decide_eq_true hq1
      have HT := Lib.hid (damT_yes (xs := xs) (fr := fr) HOKT.out (by rw [HQ.out]; exact .inl hq1))
      go_wp2
      go_roundg (g.heightsN - (k + 1))
      case measure => have := Hgk.out; omega
      case rel => exact ⟨k + 1, (k : Int), W, by omega, rfl, rfl, rfl, by go_num, by rw [HT.out, HWW.out], HBB8.out⟩
    · have hd1 : decide (q1 < 0) = false := decide_eq_false hq1
      by_cases hq2 : W < q2
      · have hd2 : decide (W < q2) = true := decide_eq_true hq2
        have HT := Lib.hid (damT_yes (xs := xs) (fr := fr) HOKT.out (by rw [HQ.out, HWW.out]; exact .inr hq2))
        go_wp2
        go_roundg (g.heightsN - (k + 1))
        case measure => have := Hgk.out; omega
        case rel => exact ⟨k + 1, (k : Int), W, by omega, rfl, rfl, rfl, by go_num, by rw [HT.out, HWW.out], HBB8.out⟩
      · have hd2 : decide (W < q2) = false := decide_eq_false hq2
        have HT := Lib.hid (damT_worse (xs := xs) (fr := fr) HOKT.out (by rw [HQ.out, HWW.out]; omega))
        go_wp2
        go_roundg (g.heightsN - (k + 1))
        case measure => have := Hgk.out; omega
        case rel => exact ⟨k + 1, q1, q2, by omega, rfl, rfl, rfl, by go_num, by rw [HT.out, HQ.out], HBB8.out⟩

end Go.Proofs.Ythlgfmdlecdchaa
