/- FirstHit on both sides. -/
import Derived.Test.YtlgnclocdblbmaaRunE
import Derived.Test.YtlgnclocdblbmaaTAsset
import Derived.Test.YtlgnclocdblbmaaAssets
import Derived.Test.YtlgnclocdblbmaaHits
import Derived.Test.YtlgnclocdblbmaaExposed
namespace Go.Proofs.Ytlgnclocdblbmaa
open Go.RowKit

def hitStep (ts : List Int) (i : Nat) (b : Int × Int) (y : Int) : Int × Int := if 0 ≤ ts.getD y.toNat 0 ∧ (b.1 < 0 ∨ ts.getD y.toNat 0 < b.2) then ((i : Int), ts.getD y.toNat 0) else b
def hitIn (ts : List Int) (i : Nat) (b : Int × Int) (ys : List Int) : Int × Int := ys.foldl (hitStep ts i) b
def hitT (ts : List Int) (xs : List Asset) : Nat → Int × Int
  | 0 => (-1, 0)
  | k + 1 => match xs[k]? with
    | some x => hitIn ts k (hitT ts xs k) x.spots
    | none => hitT ts xs k
theorem hitIn_snoc (ts : List Int) (i : Nat) (b : Int × Int) (l : List Int) (y : Int) : hitIn ts i b (l ++ [y]) = hitStep ts i (hitIn ts i b l) y := by unfold hitIn; rw [List.foldl_append]; rfl
theorem hitT_succ {ts : List Int} {xs : List Asset} {k : Nat} {x : Asset} (h : xs[k]? = some x) : hitT ts xs (k + 1) = hitIn ts k (hitT ts xs k) x.spots := by
  show (match xs[k]? with | some x => hitIn ts k (hitT ts xs k) x.spots | none => hitT ts xs k) = _
  rw [h]
def hitC (g : Grid) (xs : List Asset) (ms : List Int) (fr : Int) : Int := if assetsB g xs = false then 1 else runC g ms fr
def hitB2 (g : Grid) (xs : List Asset) (ms : List Int) (fr : Int) : Int × Int := hitT (stT g fr ms (runN g fr ms)).times xs xs.length
def hitK (g : Grid) (xs : List Asset) (ms : List Int) (fr : Int) : Int := if hitC g xs ms fr = 0 then if (hitB2 g xs ms fr).1 < 0 then 3 else 0 else hitC g xs ms fr
def hitA (g : Grid) (xs : List Asset) (ms : List Int) (fr : Int) : Int := if hitC g xs ms fr = 0 then if (hitB2 g xs ms fr).1 < 0 then 0 else (hitB2 g xs ms fr).1 else 0
def hitW (g : Grid) (xs : List Asset) (ms : List Int) (fr : Int) : Int := if hitC g xs ms fr = 0 then if (hitB2 g xs ms fr).1 < 0 then 0 else (hitB2 g xs ms fr).2 else 0
theorem hitC_zero {g : Grid} {xs : List Asset} {ms : List Int} {fr : Int} (h : hitC g xs ms fr = 0) : assetsB g xs = true ∧ RunOk g ms fr := by
  unfold hitC at h
  cases h1 : assetsB g xs
  · rw [if_pos h1] at h; cases h
  · rw [if_neg (by rw [h1]; simp)] at h
    exact ⟨rfl, runC_zero h⟩
theorem Ret.iii3 {j k l : IntKind} {m n p q r s : Int} {w w' : World} (h : m = n) (h' : p = q) (h'' : r = s) (hb : Below w.heap.size w w') : Ret (.tuple #[.int j n, .int k q, .int l s]) w (.returned (.tuple #[.int j m, .int k p, .int l r])) w' := ⟨by rw [h, h', h''], hb⟩
theorem spots_in {g : Grid} {xs : List Asset} (h : assetsB g xs = true) {k : Nat} {x : Asset} (hx : xs[k]? = some x) : ∀ y ∈ x.spots, ∃ c : Nat, y = c ∧ c < g.heights.length := fun y hy => by
  have := (fitsB_parts (assetsB_fits h hx)).2.2.1 y hy
  exact ⟨y.toNat, by omega, by omega⟩
theorem hitStep_no {ts : List Int} {i c : Nat} {b : Int × Int} {t : Int} (ht : ts[c]? = some t) (h : ¬ (0 ≤ t ∧ (b.1 < 0 ∨ t < b.2))) : hitStep ts i b (c : Int) = b := by
  have e : ts.getD ((c : Int)).toNat 0 = t := by rw [Int.toNat_natCast, List.getD_eq_getElem?_getD, ht]; rfl
  unfold hitStep; rw [e, if_neg h]
theorem hitStep_yes {ts : List Int} {i c : Nat} {b : Int × Int} {t : Int} (ht : ts[c]? = some t) (h : 0 ≤ t ∧ (b.1 < 0 ∨ t < b.2)) : hitStep ts i b (c : Int) = ((i : Int), t) := by
  have e : ts.getD ((c : Int)).toNat 0 = t := by rw [Int.toNat_natCast, List.getD_eq_getElem?_getD, ht]; rfl
  unfold hitStep; rw [e, if_pos h]
set_option maxHeartbeats 1000000 in
theorem l15Run_any (g : GridR) (bg offg : Nat) (A : Option Addr) (n c : Nat) (xs : List Asset) (B : Option Addr) (m d : Nat) (ms : List Int) (fr : Int) (w : World) (hgi : g.In w) (hx : Asset.Sl w A n xs) (hg : ∀ x ∈ xs, x.Good) (hr : SliceOf w 1 i64cells B m ms) (hbg0 : bg < w.heap.size)
    (g0 : w.cell? ⟨bg, offg, none⟩ = some (.int .i64 g.rows)) (g1 : w.cell? ⟨bg, offg + 1, none⟩ = some (.int .i64 g.columns)) (g2 : w.cell? ⟨bg, offg + 2, none⟩ = some (.int .i64 g.size)) (g3 : w.cell? ⟨bg, offg + 3, none⟩ = some (.slice g.heightsA g.heightsN g.heightsC)) :
    Calls Try.prog 75 #[.pointer (some ⟨bg, offg, none⟩), .slice A n c, .slice B m d, .int .i64 fr] w (Ret (.int .i64 (hitC g.val xs ms fr)) w) := by
  have HGl := Lib.hid hgi.1.len
  have hgn := hgi.1.le
  have HI := Lib.hid hgi
  have HX := Lib.hid hx
  have HR := Lib.hid hr
  have G0 := Lib.hid g0
  have G1 := Lib.hid g1
  have G2 := Lib.hid g2
  have G3 := Lib.hid g3
  clear hgi hx hr g0 g1 g2 g3
  go_enter Try.func75, Try.ntmps75
  go_wp2_with fail
  refine (l09Ok_any g _ _ _ HI.out hbg0 G0.out G1.out G2.out G3.out).mono ?_
  rintro e w1 ⟨rfl, hb1⟩
  cases hgb : gridB g.val
  · have HF : Hid (hitC g.val xs ms fr = 1) := by rw [Hid]; unfold hitC; rw [if_pos (by unfold assetsB; rw [hgb, Bool.false_and])]
    go_wp2
    go_ret
    exact Ret.i HF.out.symm hb1
  have hp := (gridB_iff g.val).1 hgb
  have HM := Lib.hid (mul_i64 (inB_iff.1 hp.1) (inB_iff.1 hp.2.1))
  have HL : Hid (g.rows * g.columns = (g.heightsN : Int)) := by have h := of_decide_eq_true hp.2.2.2.1; exact h.symm.trans (congrArg (fun k : Nat => (k : Int)) HGl.out)
  have HV : Hid (assetsB g.val xs = Asset.validB (g.heightsN : Int) xs) := by rw [Hid]; unfold assetsB; rw [hgb, Bool.true_and, show g.val.heights.length = g.heightsN from HGl.out]
  clear hp
  go_wp2_with fail
  refine (l15List_any g _ _ _ _ _ xs (g.heightsN : Int) _ (HX.out.below hb1) hg HM.out.1 HL.out (by omega) (by omega) (Nat.lt_of_lt_of_le hbg0 hb1.size) ((hb1.cell hbg0).trans G0.out) ((hb1.cell hbg0).trans G1.out)).mono ?_
  rintro e w2 ⟨rfl, hb2⟩
  have hb12 := hb1.trans (hb2.mono hb1.size)
  cases hv : Asset.validB (g.heightsN : Int) xs
  · have HF : Hid (hitC g.val xs ms fr = 1) := by rw [Hid]; unfold hitC; rw [if_pos (by rw [HV.out, hv])]
    go_wp2
    go_ret
    exact Ret.i HF.out.symm hb12
  have HF : Hid (hitC g.val xs ms fr = runC g.val ms fr) := by rw [Hid]; unfold hitC; rw [if_neg (by rw [HV.out, hv]; simp)]
  go_wp2_with fail
  refine (l13Ask_any g _ _ _ _ _ ms fr _ (HI.out.below hb12) (HR.out.below hb12) (Nat.lt_of_lt_of_le hbg0 hb12.size) ((hb12.cell hbg0).trans G0.out) ((hb12.cell hbg0).trans G1.out) ((hb12.cell hbg0).trans G2.out) ((hb12.cell hbg0).trans G3.out)).mono ?_
  rintro e w3 ⟨rfl, hb3⟩
  go_wp2
  go_ret
  exact Ret.i HF.out.symm (hb12.trans (hb3.mono hb12.size))
set_option maxRecDepth 100000 in
set_option maxHeartbeats 2000000 in
theorem implFirstHit_any (g : GridR) (A : Option Addr) (n c : Nat) (xs : List Asset) (B : Option Addr) (m d : Nat) (ms : List Int) (fr : Int) (w : World) (hgi : g.In w) (hx : Asset.Sl w A n xs) (hg : ∀ x ∈ xs, x.Good) (hr : SliceOf w 1 i64cells B m ms) :
    Calls Try.prog 40 #[.agg #[.int .i64 g.rows, .int .i64 g.columns, .int .i64 g.size, .slice g.heightsA g.heightsN g.heightsC], .slice A n c, .slice B m d, .int .i64 fr] w (Ret (.tuple #[.int .i64 (hitA g.val xs ms fr), .int .i64 (hitW g.val xs ms fr), .int .i64 (hitK g.val xs ms fr)]) w) := by
  have hB : Below w.heap.size w (w.alloc (.cells #[.int .i64 g.rows, .int .i64 g.columns, .int .i64 g.size, .slice g.heightsA g.heightsN g.heightsC] 29)) := (Below.refl _ _).alloc (Nat.le_refl _) _
  have HO := Lib.hid (Own.new w 29 #[.int .i64 g.rows, .int .i64 g.columns, .int .i64 g.size, .slice g.heightsA g.heightsN g.heightsC])
  have HB := Lib.hid hB
  have HI := Lib.hid (hgi.below hB)
  have HX := Lib.hid (hx.below hB)
  have HR := Lib.hid (hr.below hB)
  have HLn := Lib.hid hr.len
  have HXl := Lib.hid hx.len
  have hnle := hx.le
  clear hgi hB hx hr
  have y0 := HO.out.cell 0
  have y1 := HO.out.cell 1
  have y2 := HO.out.cell 2
  have y3 := HO.out.cell 3
  by_cases hc : hitC g.val xs ms fr = 0
  · have HC := Lib.hid hc
    have HK := Lib.hid (hitC_zero hc)
    have hcr : runC g.val ms fr = 0 := by have h := hc; unfold hitC at h; rw [if_neg (by rw [HK.out.1]; simp)] at h; exact h
    have hne : (runC g.val ms fr != 0) = false := by simp [hcr]
    have hav := HK.out.1
    have HCR := Lib.hid hcr
    have HKV : Hid (hitK g.val xs ms fr = if (hitB2 g.val xs ms fr).1 < 0 then 3 else 0) := by rw [Hid]; unfold hitK; rw [if_pos hc]
    have HAV : Hid (hitA g.val xs ms fr = if (hitB2 g.val xs ms fr).1 < 0 then 0 else (hitB2 g.val xs ms fr).1) := by rw [Hid]; unfold hitA; rw [if_pos hc]
    have HWV : Hid (hitW g.val xs ms fr = if (hitB2 g.val xs ms fr).1 < 0 then 0 else (hitB2 g.val xs ms fr).2) := by rw [Hid]; unfold hitW; rw [if_pos hc]
    clear hc hcr
    go_enter Try.func40, Try.ntmps40
    go_wp2_with fail
    refine (implValidAssets_any g _ _ _ xs _ HI.out HX.out hg).mono ?_
    rintro e w1 ⟨rfl, hb1⟩
    rw [hav]
    have hO1 := Lib.hid (HO.out.below' hb1)
    have hI1 := Lib.hid (HI.out.below hb1)
    have hR1 := Lib.hid (HR.out.below hb1)
    have hX1 := Lib.hid (HX.out.below hb1)
    have hB1 := Lib.hid (HB.out.trans (hb1.mono HB.out.size))
    clear y0 y1 y2 y3 hb1
    have y0 := hO1.out.cell 0
    have y1 := hO1.out.cell 1
    have y2 := hO1.out.cell 2
    have y3 := hO1.out.cell 3
    go_wp2_with fail
    refine (routeCode_any g _ _ _ ms fr _ _ _ [] _ hI1.out hR1.out SliceOf.nil_).mono ?_
    rintro e w2 ⟨rfl, hb2⟩
    rw [runCx_nil]
    have hO2 := Lib.hid (hO1.out.below' hb2)
    have hI2 := Lib.hid (hI1.out.below hb2)
    have hR2 := Lib.hid (hR1.out.below hb2)
    have hX2 := Lib.hid (hX1.out.below hb2)
    have hB2 := Lib.hid (hB1.out.trans (hb2.mono hB1.out.size))
    clear y0 y1 y2 y3 hb2
    have y0 := hO2.out.cell 0
    have y1 := hO2.out.cell 1
    have y2 := hO2.out.cell 2
    have y3 := hO2.out.cell 3
    go_wp2_with fail
    refine (HK.out.2.call hI2.out hR2.out).mono ?_
    rintro e w3 ⟨AU, mu, cu, sN, AV, cv, ts, rfl, hsv, hts, hb3⟩
    have HTE : Hid ((stT g.val fr ms (runN g.val fr ms)).times = ts) := hts.symm
    have HTS := Lib.hid hsv
    have HX2 := Lib.hid (hX2.out.below hb3)
    have HB2 := Lib.hid (hB2.out.trans (hb3.mono hB2.out.size))
    clear y0 y1 y2 y3 hb3 hsv hts
    have hfd : ∀ w : World, (Instr.field 83 (.agg #[.slice AU mu cu, .int .i64 sN, .slice AV m cv]) 2).run Try.prog w = .ok (.slice AV m cv) w := fun _ => by kernel_rfl
    go_wp2
    clear hfd
    go_loopg [38, 13, 14] n (fun gk i b f wr => ∃ (k : Nat) (b1 b2 : Int), k ≤ n ∧ gk = n - k ∧ i = .int .i64 k ∧ b = .int .i64 b1 ∧ f = .int .i64 b2 ∧ hitT ts xs k = (b1, b2) ∧ Below w3.heap.size w3 wr)
    case atStart => exact ⟨0, -1, 0, Nat.zero_le _, rfl, rfl, rfl, rfl, rfl, Below.refl _ _⟩
    case round =>
      obtain ⟨k, c1, c2, hk, hgk, rfl, rfl, rfl, hp0, hb⟩ := hrel
      have Hgk := Lib.hid hgk
      have HP0 := Lib.hid hp0
      have HBB := Lib.hid hb
      clear hgk hp0
      by_cases hlt : k < n
      · obtain ⟨ba, oa, x, rfl, hb1, hxk, hix, x0, x1, x2⟩ := (HX2.out.below hb).at_ hlt
        have Hxk := Lib.hid hxk
        have hpN := hix.1.le
        have HSPI : Hid (∀ y ∈ x.val.spots, ∃ c : Nat, y = c ∧ c < m) := fun y hy => by
          have h := spots_in HK.out.1 Hxk.out y hy
          rw [← HK.out.2.len, HLn.out] at h
          exact h
        obtain ⟨sp, hsp⟩ : ∃ sp, x.val.spots = sp := ⟨_, rfl⟩
        rw [hsp] at HSPI
        have HXS : Hid (hitT ts xs (k + 1) = hitIn ts k (hitT ts xs k) sp) := by rw [Hid, hitT_succ hxk, hsp]
        have hsl : SliceOf wr 1 i64cells x.spotsA x.spotsN sp := by rw [← hsp]; exact hix.1
        obtain ⟨p, hp⟩ : ∃ p, x.spotsN = p := ⟨_, rfl⟩
        rw [hp] at hsl x1 hpN
        obtain ⟨SA, hSA⟩ : ∃ SA, x.spotsA = SA := ⟨_, rfl⟩
        rw [hSA] at hsl x1
        have HSPL : Hid (sp.length = p) := hsl.len
        have HSP0 := Lib.hid hsl
        have HX1 := Lib.hid x1
        have HB1 := Lib.hid hb1
        clear hxk hix hsl hsp hp hSA
        have hB1 : Below wr.heap.size wr (wr.alloc (.cells #[.string x.id, .slice SA p x.spotsC, .int .i64 x.worth] 67)) := (Below.refl _ _).alloc (Nat.le_refl _) _
        go_wp2_with fail
        obtain ⟨wo, hwo⟩ : ∃ wo, wr.alloc (.cells #[.string x.id, .slice SA p x.spotsC, .int .i64 x.worth] 67) = wo := ⟨_, rfl⟩
        rw [hwo] at hB1
        rw [hwo]
        have HSP := Lib.hid (HSP0.out.below hB1)
        have hbo := HBB.out.trans (hB1.mono HBB.out.size)
        have HBO := Lib.hid hbo
        clear hwo hB1 x0 x1 x2
        go_loopg [46, 13, 14] p (fun gk i b f wr => ∃ (j : Nat) (b1 b2 : Int), j ≤ p ∧ gk = p - j ∧ i = .int .i64 j ∧ b = .int .i64 b1 ∧ f = .int .i64 b2 ∧ hitIn ts k (c1, c2) (sp.take j) = (b1, b2) ∧ Below wo.heap.size wo wr)
        case atStart => exact ⟨0, c1, c2, Nat.zero_le _, rfl, rfl, rfl, rfl, rfl, Below.refl _ _⟩
        case round =>
          obtain ⟨j, b1, b2, hj, hgj, rfl, rfl, rfl, hbp, hbj⟩ := hrel
          have HGJ := Lib.hid hgj
          have HBP := Lib.hid hbp
          have HBJ := Lib.hid hbj
          clear hgj hbp
          by_cases hjp : j < p
          · obtain ⟨b4, o4, y, rfl, hb4, hy, y0⟩ := ints_at (HSP.out.below hbj) hjp
            obtain ⟨cy, rfl, hcy⟩ := HSPI.out y (List.mem_of_getElem? hy)
            obtain ⟨b5, o5, t, rfl, hb5, ht, t0⟩ := ints_at ((HTS.out.below hbo).below hbj) hcy
            skip
            by_cases h0 : 0 ≤ t
            · by_cases h1 : b1 < 0
              · skip
                have HST : Hid (hitIn ts k (c1, c2) (sp.take (j + 1)) = ((k : Int), t)) := by rw [Hid, take_snoc hy, hitIn_snoc, HBP.out]; exact hitStep_yes ht (by simp only; omega)
                clear hy ht
                go_wp2
                go_roundg (p - (j + 1))
                case measure => have := HGJ.out; omega
                case rel => exact ⟨j + 1, (k : Int), t, by omega, rfl, by go_num, rfl, rfl, HST.out, HBJ.out⟩
              · have hd1 : decide (b1 < 0) = false := decide_eq_false h1
                by_cases h2 : t < b2
                · skip
                  have HST : Hid (hitIn ts k (c1, c2) (sp.take (j + 1)) = ((k : Int), t)) := by rw [Hid, take_snoc hy, hitIn_snoc, HBP.out]; exact hitStep_yes ht (by simp only; omega)
                  clear hy ht
                  go_wp2
                  go_roundg (p - (j + 1))
                  case measure => have := HGJ.out; omega
                  case rel => exact ⟨j + 1, (k : Int), t, by omega, rfl, by go_num, rfl, rfl, HST.out, HBJ.out⟩
                · have hd2 : decide (t < b2) = false := decide_eq_false h2
                  have HST : Hid (hitIn ts k (c1, c2) (sp.take (j + 1)) = (b1, b2)) := by rw [Hid, take_snoc hy, hitIn_snoc, HBP.out]; exact hitStep_no ht (by simp only; omega)
                  clear hy ht
                  go_wp2
                  go_roundg (p - (j + 1))
                  case measure => have := HGJ.out; omega
                  case rel => exact ⟨j + 1, b1, b2, by omega, rfl, by go_num, rfl, rfl, HST.out, HBJ.out⟩
            · have hd0 : decide (0 ≤ t) = false := decide_eq_false h0
              have HST : Hid (hitIn ts k (c1, c2) (sp.take (j + 1)) = (b1, b2)) := by rw [Hid, take_snoc hy, hitIn_snoc, HBP.out]; exact hitStep_no ht (by simp only; omega)
              clear hy ht
              go_wp2
              go_roundg (p - (j + 1))
              case measure => have := HGJ.out; omega
              case rel => exact ⟨j + 1, b1, b2, by omega, rfl, by go_num, rfl, rfl, HST.out, HBJ.out⟩
          · have hjp2 : j = p := by omega
            subst hjp2
            have HNX : Hid (hitT ts xs (k + 1) = (b1, b2)) := by
              rw [Hid, HXS.out, HP0.out]
              have := HBP.out
              rw [List.take_of_length_le (by rw [HSPL.out]; exact Nat.le_refl _)] at this
              exact this
            have HBN := Lib.hid (HBO.out.trans (hbj.mono HBO.out.size))
            go_wp2
            go_roundg (n - (k + 1))
            case measure => have := Hgk.out; omega
            case rel => exact ⟨k + 1, b1, b2, by omega, rfl, by go_num, rfl, rfl, HNX.out, HBN.out⟩
      · have hkn : k = n := by omega
        subst hkn
        have HE : Hid (hitB2 g.val xs ms fr = (c1, c2)) := by rw [Hid]; unfold hitB2; rw [HTE.out, HXl.out]; exact HP0.out
        rw [HE.out] at HKV HAV HWV
        by_cases hneg : c1 < 0
        · have F1 : Hid (hitK g.val xs ms fr = 3) := by rw [Hid, HKV.out, if_pos hneg]
          have F2 : Hid (hitA g.val xs ms fr = 0) := by rw [Hid, HAV.out, if_pos hneg]
          have F3 : Hid (hitW g.val xs ms fr = 0) := by rw [Hid, HWV.out, if_pos hneg]
          go_wp2
          go_ret3
          exact Ret.iii3 F2.out.symm F3.out.symm F1.out.symm (HB2.out.trans (hb.mono HB2.out.size))
        · have hd : decide (c1 < 0) = false := decide_eq_false hneg
          have F1 : Hid (hitK g.val xs ms fr = 0) := by rw [Hid, HKV.out, if_neg hneg]
          have F2 : Hid (hitA g.val xs ms fr = c1) := by rw [Hid, HAV.out, if_neg hneg]
          have F3 : Hid (hitW g.val xs ms fr = c2) := by rw [Hid, HWV.out, if_neg hneg]
          go_wp2
          go_ret3
          exact Ret.iii3 F2.out.symm F3.out.symm F1.out.symm (HB2.out.trans (hb.mono HB2.out.size))
  · have HC := Lib.hid hc
    have HKV : Hid (hitK g.val xs ms fr = hitC g.val xs ms fr) := by rw [Hid]; unfold hitK; rw [if_neg hc]
    have HAV : Hid (hitA g.val xs ms fr = 0) := by rw [Hid]; unfold hitA; rw [if_neg hc]
    have HWV : Hid (hitW g.val xs ms fr = 0) := by rw [Hid]; unfold hitW; rw [if_neg hc]
    go_enter Try.func40, Try.ntmps40
    go_wp2_with fail
    refine (implValidAssets_any g _ _ _ xs _ HI.out HX.out hg).mono ?_
    rintro e w1 ⟨rfl, hb1⟩
    have hB1 := Lib.hid (HB.out.trans (hb1.mono HB.out.size))
    cases hav : assetsB g.val xs
    · have HE : Hid (hitC g.val xs ms fr = 1) := by rw [Hid]; unfold hitC; rw [if_pos hav]
      rw [HE.out] at HKV
      clear y0 y1 y2 y3 hb1 hc
      go_wp2
      go_ret3
      exact Ret.iii3 HAV.out.symm HWV.out.symm HKV.out.symm hB1.out
    · have HE : Hid (hitC g.val xs ms fr = runC g.val ms fr) := by rw [Hid]; unfold hitC; rw [if_neg (by rw [hav]; simp)]
      rw [HE.out] at HKV hc
      have hne : (runC g.val ms fr != 0) = true := by simp [hc]
      have hO1 := Lib.hid (HO.out.below' hb1)
      have hI1 := Lib.hid (HI.out.below hb1)
      have hR1 := Lib.hid (HR.out.below hb1)
      clear y0 y1 y2 y3 hb1 hc
      have y0 := hO1.out.cell 0
      have y1 := hO1.out.cell 1
      have y2 := hO1.out.cell 2
      have y3 := hO1.out.cell 3
      go_wp2_with fail
      refine (routeCode_any g _ _ _ ms fr _ _ _ [] _ hI1.out hR1.out SliceOf.nil_).mono ?_
      rintro e w2 ⟨rfl, hb2⟩
      rw [runCx_nil]
      have hB2 := Lib.hid (hB1.out.trans (hb2.mono hB1.out.size))
      clear y0 y1 y2 y3 hb2
      go_wp2
      go_ret3
      exact Ret.iii3 HAV.out.symm HWV.out.symm HKV.out.symm hB2.out
set_option maxRecDepth 100000 in
set_option maxHeartbeats 2000000 in
theorem specFirstHit_any (g : GridR) (A : Option Addr) (n c : Nat) (xs : List Asset) (B : Option Addr) (m d : Nat) (ms : List Int) (fr : Int) (w : World) (hgi : g.In w) (hx : Asset.Sl w A n xs) (hg : ∀ x ∈ xs, x.Good) (hr : SliceOf w 1 i64cells B m ms) :
    Calls Try.prog 39 #[.agg #[.int .i64 g.rows, .int .i64 g.columns, .int .i64 g.size, .slice g.heightsA g.heightsN g.heightsC], .slice A n c, .slice B m d, .int .i64 fr] w (Ret (.tuple #[.int .i64 (hitA g.val xs ms fr), .int .i64 (hitW g.val xs ms fr), .int .i64 (hitK g.val xs ms fr)]) w) := by
  have hB : Below w.heap.size w (w.alloc (.cells #[.int .i64 g.rows, .int .i64 g.columns, .int .i64 g.size, .slice g.heightsA g.heightsN g.heightsC] 29)) := (Below.refl _ _).alloc (Nat.le_refl _) _
  have HO := Lib.hid (Own.new w 29 #[.int .i64 g.rows, .int .i64 g.columns, .int .i64 g.size, .slice g.heightsA g.heightsN g.heightsC])
  have HB := Lib.hid hB
  have HI := Lib.hid (hgi.below hB)
  have HX := Lib.hid (hx.below hB)
  have HR := Lib.hid (hr.below hB)
  have HLn := Lib.hid hr.len
  have HXl := Lib.hid hx.len
  have hnle := hx.le
  clear hgi hB hx hr
  by_cases hc : hitC g.val xs ms fr = 0
  · have HC := Lib.hid hc
    have HK := Lib.hid (hitC_zero hc)
    have hne : (hitC g.val xs ms fr != 0) = false := by simp [hc]
    have HKV : Hid (hitK g.val xs ms fr = if (hitB2 g.val xs ms fr).1 < 0 then 3 else 0) := by rw [Hid]; unfold hitK; rw [if_pos hc]
    have HAV : Hid (hitA g.val xs ms fr = if (hitB2 g.val xs ms fr).1 < 0 then 0 else (hitB2 g.val xs ms fr).1) := by rw [Hid]; unfold hitA; rw [if_pos hc]
    have HWV : Hid (hitW g.val xs ms fr = if (hitB2 g.val xs ms fr).1 < 0 then 0 else (hitB2 g.val xs ms fr).2) := by rw [Hid]; unfold hitW; rw [if_pos hc]
    clear hc
    go_enter Try.func39, Try.ntmps39
    go_wp2_with fail
    refine (l15Run_any g w.heap.size 0 _ _ _ xs _ _ _ ms fr _ HI.out HX.out hg HR.out (by simp) (HO.out.cell 0) (HO.out.cell 1) (HO.out.cell 2) (HO.out.cell 3)).mono ?_
    rintro e w2 ⟨rfl, hb2⟩
    have hO2 := Lib.hid (HO.out.below' hb2)
    have hI2 := Lib.hid (HI.out.below hb2)
    have hR2 := Lib.hid (HR.out.below hb2)
    have hX2 := Lib.hid (HX.out.below hb2)
    have hB2 := Lib.hid (HB.out.trans (hb2.mono HB.out.size))
    clear hb2
    go_wp2_with fail
    refine (l13Run_any g w.heap.size 0 _ m d ms fr _ hI2.out HK.out.2.grid hR2.out (HK.out.2.n hI2.out hR2.out) HK.out.2.f1 HK.out.2.pos HK.out.2.sum hO2.out.lt (hO2.out.cell 0) (hO2.out.cell 1) (hO2.out.cell 2) (hO2.out.cell 3)).mono ?_
    rintro e w3 ⟨u, v, rfl, hu, hv, hb3⟩
    obtain ⟨ts, hts⟩ : ∃ ts, (stT g.val fr ms (runN g.val fr ms)).times = ts := ⟨_, rfl⟩
    have htl : ts.length = m := by rw [← hts, times_len HK.out.2, HLn.out]
    rw [hts] at hv
    obtain ⟨AV, cv, rfl, _, _, hsv⟩ := hv.slice i64cells_len
    rw [htl] at hsv ⊢
    have HTE : Hid ((stT g.val fr ms (runN g.val fr ms)).times = ts) := hts
    have HTS := Lib.hid hsv
    have HX2 := Lib.hid (hX2.out.below hb3)
    have HB2 := Lib.hid (hB2.out.trans (hb3.mono hB2.out.size))
    clear hb3 hsv hts hu hv htl
    go_wp2
    go_loopg [15, 16, 17] n (fun gk b f i wr => ∃ (k : Nat) (b1 b2 : Int), k ≤ n ∧ gk = n - k ∧ i = .int .i64 k ∧ b = .int .i64 b1 ∧ f = .int .i64 b2 ∧ hitT ts xs k = (b1, b2) ∧ Below w3.heap.size w3 wr)
    case atStart => exact ⟨0, -1, 0, Nat.zero_le _, rfl, rfl, rfl, rfl, rfl, Below.refl _ _⟩
    case round =>
      obtain ⟨k, c1, c2, hk, hgk, rfl, rfl, rfl, hp0, hb⟩ := hrel
      have Hgk := Lib.hid hgk
      have HP0 := Lib.hid hp0
      have HBB := Lib.hid hb
      clear hgk hp0
      by_cases hlt : k < n
      · obtain ⟨ba, oa, x, rfl, hb1, hxk, hix, x0, x1, x2⟩ := (HX2.out.below hb).at_ hlt
        have Hxk := Lib.hid hxk
        have hpN := hix.1.le
        have HSPI : Hid (∀ y ∈ x.val.spots, ∃ c : Nat, y = c ∧ c < m) := fun y hy => by
          have h := spots_in HK.out.1 Hxk.out y hy
          rw [← HK.out.2.len, HLn.out] at h
          exact h
        obtain ⟨sp, hsp⟩ : ∃ sp, x.val.spots = sp := ⟨_, rfl⟩
        rw [hsp] at HSPI
        have HXS : Hid (hitT ts xs (k + 1) = hitIn ts k (hitT ts xs k) sp) := by rw [Hid, hitT_succ hxk, hsp]
        have hsl : SliceOf wr 1 i64cells x.spotsA x.spotsN sp := by rw [← hsp]; exact hix.1
        obtain ⟨p, hp⟩ : ∃ p, x.spotsN = p := ⟨_, rfl⟩
        rw [hp] at hsl x1 hpN
        obtain ⟨SA, hSA⟩ : ∃ SA, x.spotsA = SA := ⟨_, rfl⟩
        rw [hSA] at hsl x1
        have HSPL : Hid (sp.length = p) := hsl.len
        have HSP0 := Lib.hid hsl
        have HX1 := Lib.hid x1
        have HB1 := Lib.hid hb1
        clear hxk hix hsl hsp hp hSA
        obtain ⟨wo, rfl⟩ : ∃ wo, wo = wr := ⟨_, rfl⟩
        have HSP := HSP0
        have hbo := HBB.out
        have HBO := HBB
        clear x0 x1 x2
        go_wp2
        go_loopg [15, 16, 18] p (fun gk b f i wr => ∃ (j : Nat) (b1 b2 : Int), j ≤ p ∧ gk = p - j ∧ i = .int .i64 j ∧ b = .int .i64 b1 ∧ f = .int .i64 b2 ∧ hitIn ts k (c1, c2) (sp.take j) = (b1, b2) ∧ Below wo.heap.size wo wr)
        case atStart => exact ⟨0, c1, c2, Nat.zero_le _, rfl, rfl, rfl, rfl, rfl, Below.refl _ _⟩
        case round =>
          obtain ⟨j, b1, b2, hj, hgj, rfl, rfl, rfl, hbp, hbj⟩ := hrel
          have HGJ := Lib.hid hgj
          have HBP := Lib.hid hbp
          have HBJ := Lib.hid hbj
          clear hgj hbp
          by_cases hjp : j < p
          · obtain ⟨b4, o4, y, rfl, hb4, hy, y0⟩ := ints_at (HSP.out.below hbj) hjp
            obtain ⟨cy, rfl, hcy⟩ := HSPI.out y (List.mem_of_getElem? hy)
            obtain ⟨b5, o5, t, rfl, hb5, ht, t0⟩ := ints_at ((HTS.out.below hbo).below hbj) hcy
            have x1 := (hbj.cell (p := ⟨ba, oa + k * 3 + 1, none⟩) HB1.out).trans HX1.out
            have hbal := Nat.lt_of_lt_of_le HB1.out hbj.size
            by_cases h0 : 0 ≤ t
            · by_cases h1 : b1 < 0
              · skip
                have HST : Hid (hitIn ts k (c1, c2) (sp.take (j + 1)) = ((k : Int), t)) := by rw [Hid, take_snoc hy, hitIn_snoc, HBP.out]; exact hitStep_yes ht (by simp only; omega)
                clear hy ht
                go_wp2
                go_roundg (p - (j + 1))
                case measure => have := HGJ.out; omega
                case rel => exact ⟨j + 1, (k : Int), t, by omega, rfl, by go_num, rfl, rfl, HST.out, HBJ.out⟩
              · have hd1 : decide (b1 < 0) = false := decide_eq_false h1
                by_cases h2 : t < b2
                · skip
                  have HST : Hid (hitIn ts k (c1, c2) (sp.take (j + 1)) = ((k : Int), t)) := by rw [Hid, take_snoc hy, hitIn_snoc, HBP.out]; exact hitStep_yes ht (by simp only; omega)
                  clear hy ht
                  go_wp2
                  go_roundg (p - (j + 1))
                  case measure => have := HGJ.out; omega
                  case rel => exact ⟨j + 1, (k : Int), t, by omega, rfl, by go_num, rfl, rfl, HST.out, HBJ.out⟩
                · have hd2 : decide (t < b2) = false := decide_eq_false h2
                  have HST : Hid (hitIn ts k (c1, c2) (sp.take (j + 1)) = (b1, b2)) := by rw [Hid, take_snoc hy, hitIn_snoc, HBP.out]; exact hitStep_no ht (by simp only; omega)
                  clear hy ht
                  go_wp2
                  go_roundg (p - (j + 1))
                  case measure => have := HGJ.out; omega
                  case rel => exact ⟨j + 1, b1, b2, by omega, rfl, by go_num, rfl, rfl, HST.out, HBJ.out⟩
            · have hd0 : decide (0 ≤ t) = false := decide_eq_false h0
              have HST : Hid (hitIn ts k (c1, c2) (sp.take (j + 1)) = (b1, b2)) := by rw [Hid, take_snoc hy, hitIn_snoc, HBP.out]; exact hitStep_no ht (by simp only; omega)
              clear hy ht
              go_wp2
              go_roundg (p - (j + 1))
              case measure => have := HGJ.out; omega
              case rel => exact ⟨j + 1, b1, b2, by omega, rfl, by go_num, rfl, rfl, HST.out, HBJ.out⟩
          · have hjp2 : j = p := by omega
            subst hjp2
            have HNX : Hid (hitT ts xs (k + 1) = (b1, b2)) := by
              rw [Hid, HXS.out, HP0.out]
              have := HBP.out
              rw [List.take_of_length_le (by rw [HSPL.out]; exact Nat.le_refl _)] at this
              exact this
            have HBN := Lib.hid (HBO.out.trans (hbj.mono HBO.out.size))
            have x1 := (hbj.cell (p := ⟨ba, oa + k * 3 + 1, none⟩) HB1.out).trans HX1.out
            have hbal := Nat.lt_of_lt_of_le HB1.out hbj.size
            go_wp2
            go_roundg (n - (k + 1))
            case measure => have := Hgk.out; omega
            case rel => exact ⟨k + 1, b1, b2, by omega, rfl, by go_num, rfl, rfl, HNX.out, HBN.out⟩
      · have hkn : k = n := by omega
        subst hkn
        have HE : Hid (hitB2 g.val xs ms fr = (c1, c2)) := by rw [Hid]; unfold hitB2; rw [HTE.out, HXl.out]; exact HP0.out
        rw [HE.out] at HKV HAV HWV
        by_cases hneg : c1 < 0
        · have F1 : Hid (hitK g.val xs ms fr = 3) := by rw [Hid, HKV.out, if_pos hneg]
          have F2 : Hid (hitA g.val xs ms fr = 0) := by rw [Hid, HAV.out, if_pos hneg]
          have F3 : Hid (hitW g.val xs ms fr = 0) := by rw [Hid, HWV.out, if_pos hneg]
          go_wp2
          go_ret3
          exact Ret.iii3 F2.out.symm F3.out.symm F1.out.symm (HB2.out.trans (hb.mono HB2.out.size))
        · have hd : decide (c1 < 0) = false := decide_eq_false hneg
          have F1 : Hid (hitK g.val xs ms fr = 0) := by rw [Hid, HKV.out, if_neg hneg]
          have F2 : Hid (hitA g.val xs ms fr = c1) := by rw [Hid, HAV.out, if_neg hneg]
          have F3 : Hid (hitW g.val xs ms fr = c2) := by rw [Hid, HWV.out, if_neg hneg]
          go_wp2
          go_ret3
          exact Ret.iii3 F2.out.symm F3.out.symm F1.out.symm (HB2.out.trans (hb.mono HB2.out.size))
  · have HC := Lib.hid hc
    have hne : (hitC g.val xs ms fr != 0) = true := by simp [hc]
    have HKV : Hid (hitK g.val xs ms fr = hitC g.val xs ms fr) := by rw [Hid]; unfold hitK; rw [if_neg hc]
    have HAV : Hid (hitA g.val xs ms fr = 0) := by rw [Hid]; unfold hitA; rw [if_neg hc]
    have HWV : Hid (hitW g.val xs ms fr = 0) := by rw [Hid]; unfold hitW; rw [if_neg hc]
    clear hc
    go_enter Try.func39, Try.ntmps39
    go_wp2_with fail
    refine (l15Run_any g w.heap.size 0 _ _ _ xs _ _ _ ms fr _ HI.out HX.out hg HR.out (by simp) (HO.out.cell 0) (HO.out.cell 1) (HO.out.cell 2) (HO.out.cell 3)).mono ?_
    rintro e w2 ⟨rfl, hb2⟩
    have hB2 := Lib.hid (HB.out.trans (hb2.mono HB.out.size))
    clear hb2
    go_wp2
    go_ret3
    exact Ret.iii3 HAV.out.symm HWV.out.symm HKV.out.symm hB2.out

end Go.Proofs.Ytlgnclocdblbmaa
