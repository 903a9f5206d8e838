/- The reference's run of the masses (l13Run). -/
import Derived.Test.YtphapakhoibamaaGreatDoorBase
import Derived.Test.YtphapakhoibamaaGreatDoorMem
import Derived.Test.YtphapakhoibamaaGreatDoorTInt64
import Derived.Test.YtphapakhoibamaaGreatDoorWithin
import Derived.Test.YtphapakhoibamaaGreatDoorTGrid
import Derived.Test.YtphapakhoibamaaGreatDoorGrids
import Derived.Test.YtphapakhoibamaaGreatDoorWays
import Derived.Test.YtphapakhoibamaaGreatDoorSpecGo
import Derived.Test.YtphapakhoibamaaGreatDoorPush2
import Derived.Test.YtphapakhoibamaaGreatDoorSpecWays
import Derived.Test.YtphapakhoibamaaGreatDoorRunCode
import Derived.Test.YtphapakhoibamaaGreatDoorRunP
import Derived.Test.YtphapakhoibamaaGreatDoorRunQ
import Derived.Test.YtphapakhoibamaaGreatDoorArr
import Derived.Test.YtphapakhoibamaaGreatDoorRunL
import Derived.Test.YtphapakhoibamaaGreatDoorSpecStep
import Derived.Test.YtphapakhoibamaaGreatDoorArr2
namespace Go.Proofs.YtphapakhoibamaaGreatDoor
open Go.RowKit

/-- A call that hands back two slices of its own and a number. -/
def RetLLI (us vs : List Int) (n : Int) (w : World) (en : Ending) (w' : World) : Prop := ∃ u v, en = .returned (.tuple #[u, v, .int .i64 n]) ∧ OwnsL w' w.heap.size 2 1 i64cells u us ∧ OwnsL w' w.heap.size 2 1 i64cells v vs ∧ Below w.heap.size w w'
theorem zeroB_sum {ms : List Int} (h : ∀ x ∈ ms, 0 ≤ x) : zeroB ms = decide (ms.sum ≤ 0) := by
  unfold zeroB
  rw [Bool.eq_iff_iff, List.all_eq_true, decide_eq_true_eq]
  constructor
  · intro h1
    have : ∀ l : List Int, (∀ x ∈ l, decide (x ≤ 0) = true) → l.sum ≤ 0 := by
      intro l
      induction l with
      | nil => intro _; simp
      | cons x l ih =>
        intro hx
        have a := of_decide_eq_true (hx x (by simp))
        have b := ih (fun y hy => hx y (by simp [hy]))
        rw [List.sum_cons]; omega
    exact this ms h1
  · intro h1 x hx
    have := le_sum ms h x hx
    exact decide_eq_true (by omega)
theorem zeroB_last {g : Grid} {fr : Int} {ms : List Int} (hgb : gridB g = true) (hl : ms.length = g.heights.length) (hfr : 1 ≤ fr) (hn : ∀ x ∈ ms, 0 ≤ x) : zeroB (stT g fr ms 5001).now = true := by
  have h := stT_ok (fr := fr) hgb hl hfr hn 5001
  have h2 := Under.none hgb (by rw [h.l1]; exact hl) (h.under (Nat.le_refl _))
  unfold zeroB
  rw [List.all_eq_true]
  intro x hx
  exact decide_eq_true (h2 x hx)
def timeOf (n : Nat) (t m : Int) : Int := if t < 0 ∧ 0 < m then (n : Int) else t
theorem markT_eq (n : Nat) (a b : List Int) : markT n a b = List.zipWith (timeOf n) a b := rfl
theorem addL_eq (a b : List Int) : addL a b = List.zipWith (fun x y => x + y) a b := rfl
theorem grid_n64 {g : GridR} {w : World} {n : Nat} (hgi : g.In w) (hgb : gridB g.val = true) (hl : n = g.heightsN) : 1 ≤ n ∧ n ≤ 64 := by
  have h := gridB_parts hgb
  have h2 := (mul_i64 h.1 h.2.1).2.2
  have h3 := h.2.2.2.1
  have h4 : 1 ≤ g.val.rows * g.val.columns := by
    have := Int.mul_le_mul h.1.1 h.2.1.1 (by omega) (by omega)
    omega
  rw [show g.val.heights.length = g.heightsN from hgi.1.len] at h3
  omega
set_option maxRecDepth 100000 in
set_option maxHeartbeats 1000000 in
theorem l13Run_any (g : GridR) (bg offg : Nat) (B : Option Addr) (n d : Nat) (ms : List Int) (fr : Int) (w : World) (hgi : g.In w) (hgb : gridB g.val = true) (hr : SliceOf w 1 i64cells B n ms) (hl : n = g.heightsN) (hfr : 1 ≤ fr) (hm0 : ∀ x ∈ ms, 0 ≤ x) (hms : ms.sum ≤ 64000000) (hbg0 : bg < w.heap.size)
    (g0 : w.cell? ⟨bg, offg, none⟩ = some (.int .i64 g.rows)) (g1 : w.cell? ⟨bg, offg + 1, none⟩ = some (.int .i64 g.columns)) (g2 : w.cell? ⟨bg, offg + 2, none⟩ = some (.int .i64 g.size)) (g3 : w.cell? ⟨bg, offg + 3, none⟩ = some (.slice g.heightsA g.heightsN g.heightsC)) :
    Calls Tryz.prog 28 #[.pointer (some ⟨bg, offg, none⟩), .slice B n d, .int .i64 fr] w (RetLLI (stT g.val fr ms (runN g.val fr ms)).settled (stT g.val fr ms (runN g.val fr ms)).times (runN g.val fr ms) w) := by
  have ⟨hn1, hn64⟩ := grid_n64 hgi hgb hl
  have hmk := make_n (P := Tryz.prog) (t := 24) (n := n) Tryz.underlying24 infoI64 (by omega) (by omega)
  have hnN : n ≤ 9223372036854775807 := by omega
  have HOK : Hid (∀ j, StOk g.val ms j (stT g.val fr ms j)) := fun j => stT_ok hgb (by rw [hr.len, hl]; exact hgi.1.len.symm) hfr hm0 j
  have HZL : Hid (zeroB (stT g.val fr ms 5001).now = true) := zeroB_last hgb (by rw [hr.len, hl]; exact hgi.1.len.symm) hfr hm0
  have HI := Lib.hid hgi
  have HGB := Lib.hid hgb
  have HL := Lib.hid hr.len
  have HM := Lib.hid hm0
  have HS := Lib.hid hms
  have Hl := Lib.hid hl
  have G0 := Lib.hid g0
  have G1 := Lib.hid g1
  have G2 := Lib.hid g2
  have G3 := Lib.hid g3
  obtain ⟨b1, o1, _, rfl, hb1, _, _⟩ := ints_at hr (show 0 < n by omega)
  have HR := Lib.hid hr
  clear hgi hgb hr hm0 hms hl g0 g1 g2 g3
  go_enter Tryz.func28, Tryz.ntmps28
  go_wp2
  clear hmk
  obtain ⟨wA, hwA⟩ : ∃ wA, w.alloc (.cells (madeCells #[.int .i64 0] n) 2) = wA := ⟨_, rfl⟩
  have hBA : Below w.heap.size w wA := by rw [← hwA]; exact (Below.refl _ _).alloc (Nat.le_refl _) _
  have hSA : IntsAt wA w.heap.size (List.replicate n 0) := by rw [← hwA]; exact intsAt_made w n
  have hszA : wA.heap.size = w.heap.size + 1 := by rw [← hwA]; simp
  rw [hwA]
  have HBA := Lib.hid hBA
  have HSA := Lib.hid hSA
  have HSZ := Lib.hid hszA
  clear hBA hSA hwA hszA
  go_loopg [10, 11] n (fun gk u i wr => ∃ (k : Nat) (v : Value), k ≤ n ∧ gk = n - k ∧ i = .int .i64 k ∧ v = u ∧ Below wA.heap.size wA wr ∧ OwnsL wr wA.heap.size 2 1 i64cells v ((ms.take k).map (fun m => if 0 < m then 0 else -1)))
  case atStart => exact ⟨0, _, Nat.zero_le _, rfl, rfl, rfl, (Below.refl _ _).alloc (Nat.le_refl _) _, by
    have h := OwnsL.made wA wA.heap.size 2 1 i64cells (Nat.le_refl _)
    rw [show (⟨wA.heap.size, 0, none⟩ : Addr) = ⟨w.heap.size + 1, 0, none⟩ by rw [HSZ.out]] at h
    exact h⟩
  case round =>
    obtain ⟨k, v, hk, hgk, rfl, rfl, hb, hown⟩ := hrel
    have Hgk := Lib.hid hgk
    have HOwn := Lib.hid hown
    have HB := Lib.hid hb
    clear hgk hown
    by_cases hlt : k < n
    · obtain ⟨b1', o1', m, hA', _, hmk, m0w⟩ := ints_at HR.out hlt
      injection hA' with e
      injection e with e1 e2 _
      subst e1 e2
      have HMk := Lib.hid hmk
      have M0 := Lib.hid m0w
      have HTS : Hid ((ms.take (k + 1)).map (fun m => if 0 < m then (0 : Int) else -1) = (ms.take k).map (fun m => if 0 < m then 0 else -1) ++ [if 0 < m then 0 else -1]) := by
        rw [Hid, take_snoc hmk, List.map_append]; rfl
      have hkl : ((ms.take k).map (fun m => if 0 < m then (0 : Int) else -1)).length = k := by
        rw [List.length_map, List.length_take, HL.out]; omega
      obtain ⟨l, hl⟩ : ∃ l, (ms.take k).map (fun m => if 0 < m then (0 : Int) else -1) = l := ⟨_, rfl⟩
      rw [hl] at hkl HTS HOwn
      have HKL := Lib.hid hkl
      clear hmk m0w hkl hl
      go_wp2_with (at_builtin; refine wpList_push2 (by rfl) (.tmp 27) (.tmp 28) 24 (by rfl) wA.heap.size 2 1 Tryz.underlying24 infoI64 (by rfl) (by decide) i64cells i64cells_len i64cells_one _ v l (-1) (by rfl) (by rfl) HOwn.out (by rfl) (by rw [HKL.out]; omega) (by decide) HB.out.size ?_)
      intro v' w' hown' hb' _ _
      obtain ⟨gt, ct, rfl, hgt, hgtl⟩ := hown'.block (by simp)
      have hlen : (l ++ [(-1 : Int)]).length = k + 1 := by rw [List.length_append, HKL.out]; rfl
      rw [hlen] at hown' ⊢
      have hB' := HB.out.trans hb'
      have m0 : w'.cell? ⟨b1, o1 + k, none⟩ = some (.int .i64 m) := (hB'.cell (p := ⟨b1, o1 + k, none⟩) (by rw [HSZ.out]; exact Nat.lt_succ_of_lt hb1)).trans ((HBA.out.cell (p := ⟨b1, o1 + k, none⟩) hb1).trans M0.out)
      have t0 : w'.cell? ⟨gt, k, none⟩ = some (.int .i64 (-1)) := hown'.cellAt (by rw [List.getElem?_append_right (by rw [HKL.out]; exact Nat.le_refl _), HKL.out]; simp)
      have df := hown'.frozen
      have HB' := Lib.hid hB'
      have HOwn' := Lib.hid hown'
      clear hown' hb' hB' hlen
      by_cases hm : 0 < m
      · have hSet := HOwn'.out.setAt (k := k) 0
        have HSET : Hid (OwnsL (w'.setCell ⟨gt, k, none⟩ (.int .i64 0)) wA.heap.size 2 1 i64cells (.slice (some ⟨gt, 0, none⟩) (k + 1) ct) ((ms.take (k + 1)).map (fun m => if 0 < m then (0 : Int) else -1))) := by
          rw [Hid, HTS.out, if_pos hm]
          have : (l ++ [(-1 : Int)]).set k 0 = l ++ [0] := by rw [List.set_append_right _ _ (by rw [HKL.out]; exact Nat.le_refl _), HKL.out, Nat.sub_self]; rfl
          rw [this] at hSet
          exact hSet
        clear hSet
        go_wp2
        go_roundg (n - (k + 1))
        case measure => have := Hgk.out; omega
        case rel => exact ⟨k + 1, _, by omega, rfl, by go_num, rfl, HB'.out.setCell (by exact hgt) _, HSET.out⟩
      · have hd : decide (0 < m) = false := decide_eq_false hm
        have HSAME : Hid (OwnsL w' wA.heap.size 2 1 i64cells (.slice (some ⟨gt, 0, none⟩) (k + 1) ct) ((ms.take (k + 1)).map (fun m => if 0 < m then (0 : Int) else -1))) := by
          rw [Hid, HTS.out, if_neg hm]; exact HOwn'.out
        go_wp2
        go_roundg (n - (k + 1))
        case measure => have := Hgk.out; omega
        case rel => exact ⟨k + 1, _, by omega, rfl, by go_num, rfl, HB'.out, HSAME.out⟩
    · have hkn : k = n := by omega
      subst hkn
      have hown0 := HOwn.out
      rw [List.take_of_length_le (by rw [HL.out]; exact Nat.le_refl _)] at hown0
      obtain ⟨gt, ct, rfl, hgt, hgtl⟩ := hown0.block (by intro e; have := congrArg List.length e; rw [List.length_map, HL.out] at this; simp at this; omega)
      rw [show (ms.map (fun m => if 0 < m then (0 : Int) else -1)).length = k by rw [List.length_map, HL.out]] at hown0 ⊢
      have HT0 : Hid (OwnsL wr wA.heap.size 2 1 i64cells (.slice (some ⟨gt, 0, none⟩) k ct) (stT g.val fr ms 0).times) := hown0
      have HBw := Lib.hid (HBA.out.trans (hb.mono HBA.out.size))
      have HS0 : Hid (IntsAt wr w.heap.size (stT g.val fr ms 0).settled) := by
        rw [Hid, show (stT g.val fr ms 0).settled = List.replicate k 0 by unfold stT; simp [HL.out]]
        exact HSA.out.below' hb
      clear hown0
      go_wp2_with fail
      refine (l00Own_any b1 o1 k d ms _ (HR.out.below HBw.out) (by omega)).mono ?_
      rintro e w1 ⟨u, rfl, hu, hb1'⟩
      have HT1 := Lib.hid (HT0.out.below' hb1')
      have HS1 := Lib.hid (HS0.out.below' hb1')
      have HB1 := Lib.hid (HBw.out.trans (hb1'.mono HBw.out.size))
      obtain ⟨AN, cN, rfl, _, _, hsn⟩ := hu.slice i64cells_len
      rw [HL.out] at hsn ⊢
      have HN1 : Hid (SliceOf w1 1 i64cells AN k (stT g.val fr ms 0).now) := hsn
      have hgt0 : gt ≠ w.heap.size := by have := HSZ.out; omega
      have HGT := Lib.hid hgt0
      have HGTle : Hid (w.heap.size ≤ gt) := by rw [Hid]; have := HSZ.out; omega
      clear hu hsn hb1' hgt0
      go_wp2
      go_loopg [12, 13] 5001 (fun gk u s wr => ∃ (j : Nat) (A : Option Addr) (c : Nat), j ≤ 5001 ∧ gk = 5001 - j ∧ s = .int .i64 j ∧ u = .slice A k c ∧ (∀ i, i < j → zeroB (stT g.val fr ms i).now = false) ∧ Below w.heap.size w wr ∧ SliceOf wr 1 i64cells A k (stT g.val fr ms j).now ∧ IntsAt wr w.heap.size (stT g.val fr ms j).settled ∧ OwnsL wr wA.heap.size 2 1 i64cells (.slice (some ⟨gt, 0, none⟩) k ct) (stT g.val fr ms j).times)
      case atStart => exact ⟨0, AN, cN, by omega, rfl, rfl, rfl, fun i hi => absurd hi (by omega), HB1.out, HN1.out, HS1.out, HT1.out⟩
      case round =>
        obtain ⟨j, A, c, hj, hgj, rfl, rfl, hz, hb, hsn, hset, htim⟩ := hrel
        have hok := HOK.out j
        have hok1 := HOK.out (j + 1)
        have hd1 : (stT g.val fr ms (j + 1)).now = (stepT g.val fr (stT g.val fr ms j).now k).1 := by rw [← HL.out]; rfl
        have hd2 : (stT g.val fr ms (j + 1)).settled = addL (stT g.val fr ms j).settled (stepT g.val fr (stT g.val fr ms j).now k).2 := by rw [← HL.out]; rfl
        have hd3 : (stT g.val fr ms (j + 1)).times = markT (j + 1) (stT g.val fr ms j).times (stepT g.val fr (stT g.val fr ms j).now k).1 := by rw [← HL.out]; rfl
        have HD1 := Lib.hid hd1
        have HD2 := Lib.hid hd2
        have HD3 := Lib.hid hd3
        have HLN : Hid ((stT g.val fr ms j).now.length = k) := hsn.len
        have HLS : Hid ((stT g.val fr ms j).settled.length = k) := hok.l2.trans HL.out
        have HLT : Hid ((stT g.val fr ms j).times.length = k) := hok.l3.trans HL.out
        have HN1' : Hid (∀ x ∈ (stT g.val fr ms j).now, 0 ≤ x) := hok.n1
        have HN2' : Hid (∀ x ∈ (stT g.val fr ms j).settled, 0 ≤ x) := hok.n2
        have HSUM : Hid ((stT g.val fr ms j).now.sum + (stT g.val fr ms j).settled.sum = ms.sum) := hok.sum
        have HZZ : Hid (zeroB (stT g.val fr ms j).now = decide ((stT g.val fr ms j).now.sum ≤ 0)) := zeroB_sum hok.n1
        have HB := Lib.hid hb
        have HGJ := Lib.hid hgj
        have HZ := Lib.hid hz
        clear hok hok1 hd1 hd2 hd3 hgj hz
        obtain ⟨cur, hcur⟩ : ∃ cur, (stT g.val fr ms j).now = cur := ⟨_, rfl⟩
        obtain ⟨stl, hstl⟩ : ∃ stl, (stT g.val fr ms j).settled = stl := ⟨_, rfl⟩
        obtain ⟨tms, htms⟩ : ∃ tms, (stT g.val fr ms j).times = tms := ⟨_, rfl⟩
        rw [hcur] at hsn HD1 HD2 HD3 HLN HN1' HSUM HZZ
        rw [hstl] at hset HD2 HLS HN2' HSUM
        rw [htms] at htim HD3 HLT
        have HCUR := Lib.hid hcur
        have HSTL := Lib.hid hstl
        have HTMS := Lib.hid htms
        have HSN := Lib.hid hsn
        have HSET := Lib.hid hset
        have HTIM := Lib.hid htim
        have hs1 := sum_nonneg cur HN1'.out
        have hs2 := sum_nonneg stl HN2'.out
        have hs3 : cur.sum ≤ 64000000 ∧ stl.sum ≤ 64000000 := by have := HSUM.out; have := HS.out; omega
        have HS3 := Lib.hid hs3
        have HBND : Hid (∀ x ∈ cur, 0 ≤ x ∧ x ≤ 100000000000) := fun x hx => by
          have := le_sum cur HN1'.out x hx
          have := HN1'.out x hx
          have := HS3.out.1
          omega
        obtain ⟨q, hq⟩ : ∃ q, cur.sum = q := ⟨_, rfl⟩
        have HQ := Lib.hid hq
        clear hcur hstl htms hsn hset htim hs1 hs2 hs3 hq
        by_cases hpos : 0 < q
        · have HZJ : Hid (zeroB cur = false) := by rw [Hid, HZZ.out, HQ.out]; exact decide_eq_false (by omega)
          have hj5 : j < 5001 := by
            rcases Nat.lt_or_ge j 5001 with h | h
            · exact h
            · have hje : j = 5001 := by omega
              have h1 := HZL.out
              rw [← hje, HCUR.out, HZJ.out] at h1
              cases h1
          go_wp2_with fail
          refine (l13Sum_any _ _ _ cur _ HSN.out hn64 HBND.out).mono ?_
          rintro e w' ⟨rfl, rfl⟩
          rw [HQ.out]
          have hbgr : bg < wr.heap.size := Nat.lt_of_lt_of_le hbg0 HB.out.size
          go_wp2_with fail
          refine (l13Step_any g bg offg A k c cur fr _ (HI.out.below HB.out) HGB.out HSN.out Hl.out hfr HN1'.out HS3.out.1 hbgr ((HB.out.cell hbg0).trans G0.out) ((HB.out.cell hbg0).trans G1.out) ((HB.out.cell hbg0).trans G2.out) ((HB.out.cell hbg0).trans G3.out)).mono ?_
          rintro e w2 ⟨u, v, rfl, hu, hv, hb2⟩
          obtain ⟨⟨mvl, mor⟩, hst⟩ : ∃ z, stepT g.val fr cur k = z := ⟨_, rfl⟩
          have hsl := stepT_len g.val fr cur k
          have hso := stepT_ok (g := g.val) (fr := fr) (ms := cur) HGB.out (by rw [HLN.out, Hl.out]; exact HI.out.1.len.symm) hfr HN1'.out k (by rw [HLN.out]; exact Nat.le_refl _)
          rw [hst] at hu hv hsl hso HD1 HD2 HD3
          have HD1' : Hid ((stT g.val fr ms (j + 1)).now = mvl) := HD1.out
          have HD2' : Hid ((stT g.val fr ms (j + 1)).settled = addL stl mor) := HD2.out
          have HD3' : Hid ((stT g.val fr ms (j + 1)).times = markT (j + 1) tms mvl) := HD3.out
          have hml : mvl.length = k := hsl.1.trans HLN.out
          have hol : mor.length = k := hsl.2.trans HLN.out
          have HON : Hid (∀ x ∈ mor, 0 ≤ x ∧ x ≤ 64000000) := fun x hx => by
            have h1 := le_sum mor hso.n2 x hx
            have h2 := hso.sum
            have h3 := sum_nonneg mvl hso.n1
            rw [List.take_of_length_le (by rw [HLN.out]; exact Nat.le_refl _)] at h2
            have := HS3.out.1
            have h4 := hso.n2 x hx
            simp only at h2
            omega
          clear hsl hso hst HD1 HD2 HD3
          have hu0 : OwnsL w2 wr.heap.size 2 1 i64cells u mvl := hu
          have hv0 : OwnsL w2 wr.heap.size 2 1 i64cells v mor := hv
          clear hu hv
          obtain ⟨bu, cu, rfl, hbu, hbul⟩ := hu0.block (by intro e; rw [e] at hml; simp at hml; omega)
          obtain ⟨bv, cv, rfl, hbv, hbvl⟩ := hv0.block (by intro e; rw [e] at hol; simp at hol; omega)
          rw [hml] at hu0 ⊢
          rw [hol] at hv0 ⊢
          have HGTL : Hid (gt < wr.heap.size) := (HTIM.out.lt gt rfl).2
          have HWL : Hid (w.heap.size < wr.heap.size) := HSET.out.lt
          have HU2 := Lib.hid hu0
          have HV2 := Lib.hid hv0
          have HML := Lib.hid hml
          have HOL := Lib.hid hol
          have HSET2 := Lib.hid (HSET.out.below' hb2)
          have HTIM2 := Lib.hid (HTIM.out.below' hb2)
          have HB2 := Lib.hid (HB.out.trans (hb2.mono HB.out.size))
          have HLST : Hid (stl.length = mor.length) := HLS.out.trans hol.symm
          have HLTM : Hid (tms.length = mvl.length) := HLT.out.trans hml.symm
          obtain ⟨W0, hW0⟩ : ∃ W0, wr.heap.size = W0 := ⟨_, rfl⟩
          rw [hW0] at HU2 HV2 HGTL HWL hbu hbv
          clear hu0 hv0 hb2 hml hol hW0
          go_wp2
          go_loopg [16] k (fun gk i wr => ∃ c2 : Nat, c2 ≤ k ∧ gk = k - c2 ∧ i = .int .i64 c2 ∧ Below w.heap.size w wr ∧ IntsAt wr w.heap.size (mixL (fun a b => a + b) stl mor c2) ∧ OwnsL wr wA.heap.size 2 1 i64cells (.slice (some ⟨gt, 0, none⟩) k ct) (mixL (timeOf (j + 1)) tms mvl c2) ∧ OwnsL wr W0 2 1 i64cells (.slice (some ⟨bu, 0, none⟩) k cu) mvl ∧ OwnsL wr W0 2 1 i64cells (.slice (some ⟨bv, 0, none⟩) k cv) mor)
          case atStart => exact ⟨0, Nat.zero_le _, rfl, rfl, HB2.out, by rw [mixL_zero]; exact HSET2.out, by rw [mixL_zero]; exact HTIM2.out, HU2.out, HV2.out⟩
          case round =>
            obtain ⟨c2, hc2, hgc, rfl, hb3, hset3, htim3, hu3, hv3⟩ := hrel
            have HGC := Lib.hid hgc
            have HB3 := Lib.hid hb3
            have HSET3 := Lib.hid hset3
            have HTIM3 := Lib.hid htim3
            have HU3 := Lib.hid hu3
            have HV3 := Lib.hid hv3
            clear hgc hb3
            by_cases hck : c2 < k
            · obtain ⟨x, hx⟩ : ∃ x, stl[c2]? = some x := ⟨_, List.getElem?_eq_getElem (by rw [HLS.out]; exact hck)⟩
              obtain ⟨y, hy⟩ : ∃ y, mor[c2]? = some y := ⟨_, List.getElem?_eq_getElem (by rw [HOL.out]; exact hck)⟩
              obtain ⟨tx, htx⟩ : ∃ x, tms[c2]? = some x := ⟨_, List.getElem?_eq_getElem (by rw [HLT.out]; exact hck)⟩
              obtain ⟨my, hmy⟩ : ∃ y, mvl[c2]? = some y := ⟨_, List.getElem?_eq_getElem (by rw [HML.out]; exact hck)⟩
              have hxb : 0 ≤ x ∧ x ≤ 64000000 := by
                have := HN2'.out x (List.mem_of_getElem? hx)
                have := le_sum stl HN2'.out x (List.mem_of_getElem? hx)
                have := HS3.out.2
                omega
              have hyb := HON.out y (List.mem_of_getElem? hy)
              have s0 : wr.cell? ⟨w.heap.size, c2, none⟩ = some (.int .i64 x) := hset3.cell (mixL_at HLST.out hx)
              have v0 : wr.cell? ⟨bv, c2, none⟩ = some (.int .i64 y) := hv3.cellAt hy
              have u0 : wr.cell? ⟨bu, c2, none⟩ = some (.int .i64 my) := hu3.cellAt hmy
              have t0 : wr.cell? ⟨gt, c2, none⟩ = some (.int .i64 tx) := htim3.cellAt (mixL_at HLTM.out htx)
              have df := hset3.frozen
              have hwl : w.heap.size < wr.heap.size := hset3.lt
              have hbul' : bu < wr.heap.size := (hu3.lt bu rfl).2
              have hbvl' : bv < wr.heap.size := (hv3.lt bv rfl).2
              have hgtl' : gt < wr.heap.size := (htim3.lt gt rfl).2
              have U0 := Lib.hid u0
              have T0 := Lib.hid t0
              have HX := Lib.hid hx
              have HY := Lib.hid hy
              have hsub := fun (g : Sub wr) b o (h : b < wr.heap.size) => g.cell b o h
              clear hset3 htim3 hu3 hv3 u0 t0 hx hy
              go_wp2_with fail
              refine wp_region_sub_tail 10 (by kernel_rfl) (by kernel_rfl) ?_
              simp only [List.take_succ_cons, List.take_zero, List.drop_succ_cons, List.drop_zero]
              repeat (go_big_quiet_step (fail))
              refine wpQuiet_nil ?_
              intro wg hg
              have HBG := Lib.hid (HB3.out.trans (hg.mono HB3.out.size))
              have HSG := Lib.hid (HSET3.out.below' hg)
              have HTG := Lib.hid (HTIM3.out.below' hg)
              have HUG := Lib.hid (HU3.out.below' hg)
              have HVG := Lib.hid (HV3.out.below' hg)
              have sg : wg.cell? ⟨w.heap.size, c2, none⟩ = some (.int .i64 x) := (hg.cell (p := ⟨w.heap.size, c2, none⟩) hwl).trans s0
              have dg := HSG.out.frozen
              have HSS : Hid (IntsAt (wg.setCell ⟨w.heap.size, c2, none⟩ (.int .i64 (x + y))) w.heap.size (mixL (fun a b => a + b) stl mor (c2 + 1))) := by
                rw [Hid, ← mixL_step HLST.out HX.out HY.out]; exact HSG.out.set _ _
              have hkS : ∀ b, b ≠ w.heap.size → (wg.setCell ⟨w.heap.size, c2, none⟩ (.int .i64 (x + y))).heap[b]? = wg.heap[b]? := fun b h1 => Below.heap_setCell _ ⟨w.heap.size, c2, none⟩ _ b h1
              have us : (wg.setCell ⟨w.heap.size, c2, none⟩ (.int .i64 (x + y))).cell? ⟨bu, c2, none⟩ = some (.int .i64 my) := (World.cell?_of_block (a := ⟨bu, c2, none⟩) (hkS bu (by have := HWL.out; omega))).trans ((hg.cell (p := ⟨bu, c2, none⟩) hbul').trans U0.out)
              have ts : (wg.setCell ⟨w.heap.size, c2, none⟩ (.int .i64 (x + y))).cell? ⟨gt, c2, none⟩ = some (.int .i64 tx) := (World.cell?_of_block (a := ⟨gt, c2, none⟩) (hkS gt HGT.out)).trans ((hg.cell (p := ⟨gt, c2, none⟩) hgtl').trans T0.out)
              have HTS : Hid (OwnsL (wg.setCell ⟨w.heap.size, c2, none⟩ (.int .i64 (x + y))) wA.heap.size 2 1 i64cells (.slice (some ⟨gt, 0, none⟩) k ct) (mixL (timeOf (j + 1)) tms mvl c2)) := HTG.out.kept (fun kk hkk => hkS kk (by injection hkk with e; rw [← e]; exact HGT.out))
              have ds := HTS.out.frozen
              clear hsub s0 v0 hkS hg
              by_cases hmp : 0 < my
              · by_cases htn : tx < 0
                · have HTF : Hid (OwnsL ((wg.setCell ⟨w.heap.size, c2, none⟩ (.int .i64 (x + y))).setCell ⟨gt, c2, none⟩ (.int .i64 ((j + 1 : Nat) : Int))) wA.heap.size 2 1 i64cells (.slice (some ⟨gt, 0, none⟩) k ct) (mixL (timeOf (j + 1)) tms mvl (c2 + 1))) := by
                    have h := HTS.out.setAt (k := c2) (((j + 1 : Nat) : Int))
                    rw [Hid, ← mixL_step HLTM.out htx hmy, show timeOf (j + 1) tx my = ((j + 1 : Nat) : Int) by unfold timeOf; rw [if_pos ⟨by omega, by omega⟩]]
                    exact h
                  have HNE2 : Hid (∀ b, b ≠ w.heap.size → b ≠ gt → ((wg.setCell ⟨w.heap.size, c2, none⟩ (.int .i64 (x + y))).setCell ⟨gt, c2, none⟩ (.int .i64 ((j + 1 : Nat) : Int))).heap[b]? = wg.heap[b]?) := fun b h1 h2 => (Below.heap_setCell _ ⟨gt, c2, none⟩ _ b h2).trans (Below.heap_setCell _ ⟨w.heap.size, c2, none⟩ _ b h1)
                  have HBF : Hid (Below w.heap.size w ((wg.setCell ⟨w.heap.size, c2, none⟩ (.int .i64 (x + y))).setCell ⟨gt, c2, none⟩ (.int .i64 ((j + 1 : Nat) : Int)))) := (HBG.out.setCell (by exact Nat.le_refl _) _).setCell (by exact HGTle.out) _
                  have HSF : Hid (IntsAt ((wg.setCell ⟨w.heap.size, c2, none⟩ (.int .i64 (x + y))).setCell ⟨gt, c2, none⟩ (.int .i64 ((j + 1 : Nat) : Int))) w.heap.size (mixL (fun a b => a + b) stl mor (c2 + 1))) := HSS.out.other (Ne.symm HGT.out) _ _
                  have HUF := Lib.hid (HUG.out.kept (fun kk hkk => HNE2.out kk (by have := (HUG.out.lt kk hkk).1; have := HWL.out; have := HGTL.out; omega) (by have := (HUG.out.lt kk hkk).1; have := HGTL.out; omega)))
                  have HVF := Lib.hid (HVG.out.kept (fun kk hkk => HNE2.out kk (by have := (HVG.out.lt kk hkk).1; have := HWL.out; have := HGTL.out; omega) (by have := (HVG.out.lt kk hkk).1; have := HGTL.out; omega)))
                  clear htx hmy
                  go_wp2
                  go_roundg (k - (c2 + 1))
                  case measure => have := HGC.out; omega
                  case rel => exact ⟨c2 + 1, by omega, rfl, by go_num, HBF.out, HSF.out, HTF.out, HUF.out, HVF.out⟩
                · have hd : decide (tx < 0) = false := decide_eq_false htn
                  have HTF : Hid (OwnsL (wg.setCell ⟨w.heap.size, c2, none⟩ (.int .i64 (x + y))) wA.heap.size 2 1 i64cells (.slice (some ⟨gt, 0, none⟩) k ct) (mixL (timeOf (j + 1)) tms mvl (c2 + 1))) := by
                    rw [Hid, ← mixL_same HLTM.out htx hmy (by unfold timeOf; rw [if_neg (by omega)])]
                    exact HTS.out
                  have HNE2 : Hid (∀ b, b ≠ w.heap.size → (wg.setCell ⟨w.heap.size, c2, none⟩ (.int .i64 (x + y))).heap[b]? = wg.heap[b]?) := fun b h1 => Below.heap_setCell _ ⟨w.heap.size, c2, none⟩ _ b h1
                  have HBF : Hid (Below w.heap.size w (wg.setCell ⟨w.heap.size, c2, none⟩ (.int .i64 (x + y)))) := HBG.out.setCell (by exact Nat.le_refl _) _
                  have HSF : Hid (IntsAt (wg.setCell ⟨w.heap.size, c2, none⟩ (.int .i64 (x + y))) w.heap.size (mixL (fun a b => a + b) stl mor (c2 + 1))) := HSS.out
                  have HUF := Lib.hid (HUG.out.kept (fun kk hkk => HNE2.out kk (by have := (HUG.out.lt kk hkk).1; have := HWL.out; have := HGTL.out; omega)))
                  have HVF := Lib.hid (HVG.out.kept (fun kk hkk => HNE2.out kk (by have := (HVG.out.lt kk hkk).1; have := HWL.out; have := HGTL.out; omega)))
                  clear htx hmy
                  go_wp2
                  go_roundg (k - (c2 + 1))
                  case measure => have := HGC.out; omega
                  case rel => exact ⟨c2 + 1, by omega, rfl, by go_num, HBF.out, HSF.out, HTF.out, HUF.out, HVF.out⟩
              · have hd : decide (0 < my) = false := decide_eq_false hmp
                have HTF : Hid (OwnsL (wg.setCell ⟨w.heap.size, c2, none⟩ (.int .i64 (x + y))) wA.heap.size 2 1 i64cells (.slice (some ⟨gt, 0, none⟩) k ct) (mixL (timeOf (j + 1)) tms mvl (c2 + 1))) := by
                  rw [Hid, ← mixL_same HLTM.out htx hmy (by unfold timeOf; rw [if_neg (by omega)])]
                  exact HTS.out
                have HNE2 : Hid (∀ b, b ≠ w.heap.size → (wg.setCell ⟨w.heap.size, c2, none⟩ (.int .i64 (x + y))).heap[b]? = wg.heap[b]?) := fun b h1 => Below.heap_setCell _ ⟨w.heap.size, c2, none⟩ _ b h1
                have HBF : Hid (Below w.heap.size w (wg.setCell ⟨w.heap.size, c2, none⟩ (.int .i64 (x + y)))) := HBG.out.setCell (by exact Nat.le_refl _) _
                have HSF : Hid (IntsAt (wg.setCell ⟨w.heap.size, c2, none⟩ (.int .i64 (x + y))) w.heap.size (mixL (fun a b => a + b) stl mor (c2 + 1))) := HSS.out
                have HUF := Lib.hid (HUG.out.kept (fun kk hkk => HNE2.out kk (by have := (HUG.out.lt kk hkk).1; have := HWL.out; have := HGTL.out; omega)))
                have HVF := Lib.hid (HVG.out.kept (fun kk hkk => HNE2.out kk (by have := (HVG.out.lt kk hkk).1; have := HWL.out; have := HGTL.out; omega)))
                clear htx hmy
                go_wp2
                go_roundg (k - (c2 + 1))
                case measure => have := HGC.out; omega
                case rel => exact ⟨c2 + 1, by omega, rfl, by go_num, HBF.out, HSF.out, HTF.out, HUF.out, HVF.out⟩
            · have hck2 : c2 = k := by omega
              subst hck2
              have HF1 : Hid (IntsAt wr w.heap.size (stT g.val fr ms (j + 1)).settled) := by
                have h := HSET3.out
                rw [Hid, HD2'.out, addL_eq, ← mixL_all HLST.out, HLS.out]; exact h
              have HF2 : Hid (OwnsL wr wA.heap.size 2 1 i64cells (.slice (some ⟨gt, 0, none⟩) c2 ct) (stT g.val fr ms (j + 1)).times) := by
                have h := HTIM3.out
                rw [Hid, HD3'.out, markT_eq, ← mixL_all HLTM.out, HLT.out]; exact h
              have HF3 : Hid (SliceOf wr 1 i64cells (some ⟨bu, 0, none⟩) c2 (stT g.val fr ms (j + 1)).now) := by
                rw [Hid, HD1'.out]; exact HU3.out.sl i64cells_len
              have HF4 : Hid (∀ i, i < j + 1 → zeroB (stT g.val fr ms i).now = false) := fun i hi => by
                by_cases e : i = j
                · subst e; rw [HCUR.out]; exact HZJ.out
                · exact HZ.out i (by omega)
              clear hset3 htim3 hu3 hv3
              go_wp2
              go_roundg (5001 - (j + 1))
              case measure => have := HGJ.out; omega
              case rel => exact ⟨j + 1, _, _, by omega, rfl, by go_num, rfl, HF4.out, HB3.out, HF3.out, HF1.out, HF2.out⟩
        · have hd : decide (0 < q) = false := decide_eq_false hpos
          have HRN : Hid (runN g.val fr ms = j) := by
            rw [Hid]
            exact runN_of hj (by rw [HCUR.out, HZZ.out, HQ.out]; exact decide_eq_true (by omega)) HZ.out
          have hset := HSET.out
          have htim := HTIM.out
          go_wp2_with fail
          refine (l13Sum_any _ _ _ cur _ HSN.out hn64 HBND.out).mono ?_
          rintro e w' ⟨rfl, rfl⟩
          rw [HQ.out]
          go_wp2
          go_ret3
          exact ⟨_, _, by rw [HRN.out]; rfl, by rw [HRN.out, HSTL.out]; exact hset.owns HLS.out (by omega) (Nat.le_refl _), by rw [HRN.out, HTMS.out]; exact htim.rebase (by have := HSZ.out; omega), HB.out⟩

end Go.Proofs.YtphapakhoibamaaGreatDoor
