/- The reference's step of the masses (l13Step). UNDER WAY: does not build yet. -/
import Derived.Test.YtphapakhoibamaaGreatDoorBase
import Derived.Test.YtphapakhoibamaaGreatDoorMem
import Derived.Test.YtphapakhoibamaaGreatDoorTInt64
import Derived.Test.YtphapakhoibamaaGreatDoorWithin
import Derived.Test.YtphapakhoibamaaGreatDoorTGrid
import Derived.Test.YtphapakhoibamaaGreatDoorGrids
import Derived.Test.YtphapakhoibamaaGreatDoorWays
import Derived.Test.YtphapakhoibamaaGreatDoorSpecGo
import Derived.Test.YtphapakhoibamaaGreatDoorPush2
import Derived.Test.YtphapakhoibamaaGreatDoorSpecWays
import Derived.Test.YtphapakhoibamaaGreatDoorRunCode
import Derived.Test.YtphapakhoibamaaGreatDoorRunP
import Derived.Test.YtphapakhoibamaaGreatDoorRunQ
import Derived.Test.YtphapakhoibamaaGreatDoorArr
import Derived.Test.YtphapakhoibamaaGreatDoorRunL
namespace Go.Proofs.YtphapakhoibamaaGreatDoor
open Go.RowKit

theorem IntsAt.alloc {w : World} {g : Nat} {xs : List Int} (h : IntsAt w g xs) (o : Obj) : IntsAt (w.alloc o) g xs := Own.alloc h o
theorem intsAt_made (w : World) (n : Nat) : IntsAt (w.alloc (.cells (madeCells #[.int .i64 0] n) 2)) w.heap.size (List.replicate n 0) := by
  have h := Own.new w 2 (madeCells #[.int .i64 0] n)
  have e : madeCells #[.int .i64 0] n = ((List.replicate n (0 : Int)).map (Value.int .i64)).toArray := by
    simp [madeCells, Nat.mod_one]
    apply Array.ext
    · simp
    · intro i h1 h2; simp
  unfold IntsAt
  rw [← e]; exact h
theorem stepC_len (g : Grid) (fr m : Int) (c : Nat) (a : List Int × List Int) : (stepC g fr m c a).1.length = a.1.length ∧ (stepC g fr m c a).2.length = a.2.length := by
  unfold stepC
  split
  · exact ⟨rfl, addAt_len _ _ _⟩
  · exact ⟨by rw [addAt_len, sharesOf_len], rfl⟩
theorem stepT_len (g : Grid) (fr : Int) (ms : List Int) : ∀ k, (stepT g fr ms k).1.length = ms.length ∧ (stepT g fr ms k).2.length = ms.length
  | 0 => by simp [stepT]
  | k + 1 => by
    have h := stepT_len g fr ms k
    have h2 := stepC_len g fr (ms.getD k 0) k (stepT g fr ms k)
    rw [stepT_succ]
    exact ⟨h2.1.trans h.1, h2.2.trans h.2⟩
set_option maxRecDepth 100000 in
set_option maxHeartbeats 1000000 in
theorem l13Step_any (g : GridR) (bg offg : Nat) (B : Option Addr) (n d : Nat) (ms : List Int) (fr : Int) (w : World) (hgi : g.In w) (hgb : gridB g.val = true) (hr : SliceOf w 1 i64cells B n ms) (hl : n = g.heightsN) (hfr : 1 ≤ fr) (hm0 : ∀ x ∈ ms, 0 ≤ x) (hms : ms.sum ≤ 64000000) (hbg0 : bg < w.heap.size)
    (g0 : w.cell? ⟨bg, offg, none⟩ = some (.int .i64 g.rows)) (g1 : w.cell? ⟨bg, offg + 1, none⟩ = some (.int .i64 g.columns)) (g2 : w.cell? ⟨bg, offg + 2, none⟩ = some (.int .i64 g.size)) (g3 : w.cell? ⟨bg, offg + 3, none⟩ = some (.slice g.heightsA g.heightsN g.heightsC)) :
    Calls Tryz.prog 56 #[.pointer (some ⟨bg, offg, none⟩), .slice B n d, .int .i64 fr] w (RetLL 2 1 1 i64cells i64cells (stepT g.val fr ms n).1 (stepT g.val fr ms n).2 w) := by
  have hn64 : n ≤ 64 := by
    have h := gridB_parts hgb
    have h2 := (mul_i64 h.1 h.2.1).2.2
    have h3 := h.2.2.2.1
    rw [show g.val.heights.length = g.heightsN from hgi.1.len] at h3
    omega
  have hmk := make_n (P := Tryz.prog) (t := 24) (n := n) Tryz.underlying24 infoI64 (by omega) (by omega)
  have HI := Lib.hid hgi
  have HGB := Lib.hid hgb
  have HR := Lib.hid hr
  have HL := Lib.hid hr.len
  have G0 := Lib.hid g0
  have G1 := Lib.hid g1
  have G2 := Lib.hid g2
  have G3 := Lib.hid g3
  have HM := Lib.hid hm0
  have HS := Lib.hid hms
  have Hl := Lib.hid hl
  have hnN : n ≤ 9223372036854775807 := by omega
  clear hgi hgb hr g0 g1 g2 g3 hm0 hms hl
  go_enter Tryz.func56, Tryz.ntmps56
  go_wp2
  clear hmk
  go_loopg [10] n (fun gk i wr => ∃ (k : Nat) (mv st : List Int), k ≤ n ∧ gk = n - k ∧ i = .int .i64 k ∧ stepT g.val fr ms k = (mv, st) ∧ Below w.heap.size w wr ∧ IntsAt wr w.heap.size mv ∧ IntsAt wr (w.heap.size + 1) st)
  case atStart =>
    refine ⟨0, List.replicate n 0, List.replicate n 0, Nat.zero_le _, rfl, rfl, by unfold stepT; simp [HL.out], ((Below.refl _ _).alloc (Nat.le_refl _) _).alloc (by simp) _, ?_, ?_⟩
    · exact (intsAt_made w n).alloc _
    · have := intsAt_made (w.alloc (.cells (madeCells #[.int .i64 0] n) 2)) n
      simpa using this
  case round =>
    obtain ⟨k, mv, st, hk, hgk, rfl, hst, hb, hmv, hsv⟩ := hrel
    have Hgk := Lib.hid hgk
    have Hst := Lib.hid hst
    have Hmv := Lib.hid hmv
    have Hsv := Lib.hid hsv
    clear hgk hst hmv hsv
    by_cases hlt : k < n
    · obtain ⟨b1, o1, m, rfl, hb1w, hmk, m0w⟩ := ints_at HR.out hlt
      have M0 := Lib.hid m0w
      have hb1 : b1 < wr.heap.size := Nat.lt_of_lt_of_le hb1w hb.size
      have m0 := (hb.cell (p := ⟨b1, o1 + k, none⟩) hb1w).trans m0w
      clear m0w
      have HMk := Lib.hid hmk
      have hmn := HM.out m (List.mem_of_getElem? hmk)
      have HT : Hid (stepT g.val fr ms (k + 1) = stepC g.val fr m k (mv, st)) := by
        rw [Hid, stepT_succ, Hst.out, List.getD_eq_getElem?_getD, hmk]; rfl
      clear hmk
      by_cases hmz : m = 0
      · subst hmz
        go_wp2
        go_roundg (n - (k + 1))
        case measure => have := Hgk.out; omega
        case rel => exact ⟨k + 1, mv, st, by omega, rfl, by go_num, by rw [HT.out, stepC_zero], hb, Hmv.out, Hsv.out⟩
      · have hd : decide (m = 0) = false := decide_eq_false hmz
        have hd2 : (m == 0) = false := by simp [hmz]
        have hbgr : bg < wr.heap.size := Nat.lt_of_lt_of_le hbg0 hb.size
        obtain ⟨W, hW⟩ : ∃ W, waysT g.val fr k 8 = W := ⟨_, rfl⟩
        have HMZ := Lib.hid hmz
        clear hmz
        go_wp2_with fail
        refine (l13Ways_any g bg offg k fr _ (HI.out.below hb) HGB.out (by rw [← Hl.out]; exact hlt) hbgr ((hb.cell hbg0).trans G0.out) ((hb.cell hbg0).trans G1.out) ((hb.cell hbg0).trans G2.out) ((hb.cell hbg0).trans G3.out)).mono ?_
        rintro e w1 ⟨u, v, rfl, hu, hv, hb1'⟩
        rw [hW] at hu hv
        have hbw := hb.trans (hb1'.mono hb.size)
        have Hmv1 := Lib.hid (Hmv.out.below' hb1')
        have Hsv1 := Lib.hid (Hsv.out.below' hb1')
        have hok := stepT_ok (g := g.val) (fr := fr) (ms := ms) HGB.out (by rw [HL.out, Hl.out]; exact HI.out.1.len.symm) hfr HM.out k (by rw [HL.out]; omega)
        rw [Hst.out] at hok
        have hmle : m ≤ 64000000 := by have := le_sum ms HM.out m (List.mem_of_getElem? HMk.out); have := HS.out; omega
        have m1 : w1.cell? ⟨b1, o1 + k, none⟩ = some (.int .i64 m) := (hb1'.cell hb1).trans m0
        obtain ⟨A1, c1, rfl, _, _, hsu⟩ := hu.slice i64cells_len
        obtain ⟨A2, c2, rfl, _, _, hsw⟩ := hv.slice i64cells_len
        cases W with
        | nil =>
          have HE : Hid (stepC g.val fr m k (mv, st) = (mv, addAt st k m)) := by rw [Hid]; unfold stepC; rw [hW]
          simp only [List.map_nil, List.length_nil]
          have hkst : k < st.length := by rw [show st.length = ms.length from hok.l2, HL.out]; exact hlt
          obtain ⟨s, hs⟩ : ∃ s, st[k]? = some s := ⟨_, List.getElem?_eq_getElem hkst⟩
          have hs0 := hok.n2 s (List.mem_of_getElem? hs)
          have s0 : w1.cell? ⟨w.heap.size + 1, k, none⟩ = some (.int .i64 s) := Hsv1.out.cell hs
          have df := Hsv1.out.frozen
          have htk : (ms.take k).sum ≤ ms.sum := by
            have h2 : (ms.take k).sum + (ms.drop k).sum = ms.sum := by rw [← List.sum_append, List.take_append_drop]
            have := sum_nonneg (ms.drop k) (fun x hx => HM.out x (List.mem_of_mem_drop hx))
            omega
          have hsle : s ≤ 64000000 := by
            have h1 := le_sum st hok.n2 s (List.mem_of_getElem? hs)
            have h2 := sum_nonneg mv hok.n1
            have h3 := hok.sum
            have := HS.out
            simp only at h1 h2 h3
            omega
          have hb1lt : b1 < w1.heap.size := Nat.lt_of_lt_of_le hb1 hb1'.size
          have hslt := Hsv1.out.lt
          have hsub := fun (g : Sub w1) b o (h : b < w1.heap.size) => g.cell b o h
          clear df hsu hsw
          go_wp2_with fail
          refine wp_region_sub_tail 10 (by kernel_rfl) (by kernel_rfl) ?_
          simp only [List.take_succ_cons, List.take_zero, List.drop_succ_cons, List.drop_zero]
          repeat (go_big_quiet_step (fail))
          refine wpQuiet_nil ?_
          intro wg hg
          have hsg := Hsv1.out.below' hg
          have hmg := Hmv1.out.below' hg
          have sg : wg.cell? ⟨w.heap.size + 1, k, none⟩ = some (.int .i64 s) := hsg.cell hs
          have dg := hsg.frozen
          have HB := Lib.hid (hbw.trans (hg.mono hbw.size))
          have HA := Lib.hid (addAt_set (d := m) hs)
          have HSG := Lib.hid hsg
          have HMG := Lib.hid hmg
          clear hs hsg hmg hok htk hsub
          go_wp2
          go_roundg (n - (k + 1))
          case measure => have := Hgk.out; omega
          case rel => exact ⟨k + 1, mv, addAt st k m, by omega, rfl, by go_num, by rw [HT.out, HE.out], HB.out.setCell (by exact Nat.le_succ _) _, HMG.out.other (by omega) _ _, by rw [HA.out]; exact HSG.out.set _ _⟩
        | cons x0 W0 =>
          obtain ⟨W, hWW⟩ : ∃ W, x0 :: W0 = W := ⟨_, rfl⟩
          have HX0 : Hid (W[0]? = some x0) := by rw [Hid, ← hWW]; rfl
          have HNE : Hid (W ≠ []) := by rw [Hid, ← hWW]; simp
          rw [hWW] at hW hu hv
          obtain ⟨p, hp⟩ : ∃ p, W.length = p := ⟨_, rfl⟩
          have e1 : (W.map Stp.dir).length = p := by rw [List.length_map, hp]
          have e2 : (W.map Stp.slope).length = p := by rw [List.length_map, hp]
          simp only [hWW, e1, e2] at hu hv hsw ⊢
          clear hsu
          have hp1 : 1 ≤ p := by rw [← hp, ← hWW]; simp
          have hp8 : p ≤ 8 := by rw [← hp, ← hW]; exact waysT_len _ _ _ _
          have HP := Lib.hid hp
          have HWO : Hid (∀ x ∈ W, ∃ d j, WayOk g.val x d j ∧ inC g.val k d = true ∧ goC g.val k d = j) := fun x hx => by
            rw [← hW] at hx
            exact waysT_ok HGB.out (by rw [show g.val.heights.length = g.heightsN from HI.out.1.len, ← Hl.out]; exact hlt) hfr hx
          have HS1 : Hid (∀ x ∈ W, 1 ≤ x.slope) := fun x hx => by obtain ⟨_, _, h, _⟩ := HWO.out x hx; exact h.s1
          have HE : Hid (stepC g.val fr m k (mv, st) = (addAt (sharesOf m (allOf W) mv W) (bestOf x0 W).cell.toNat (leftOf m (allOf W) W), st)) := by
            rw [Hid]; unfold stepC; rw [hW, ← hWW]
          have HFB : Hid (∀ x ∈ W.map Stp.slope, 0 ≤ x ∧ x ≤ 100000000000) := fun x hx => by
            obtain ⟨y, hy, rfl⟩ := List.mem_map.1 hx
            obtain ⟨_, _, h, _⟩ := HWO.out y hy
            have := h.s1
            have := h.s2
            omega
          have HSUM : Hid ((W.map Stp.slope).sum = allOf W) := by rw [Hid]; rfl
          have halp := allOf_pos HS1.out HNE.out
          have HU := Lib.hid hu
          have HV := Lib.hid hv
          have HWW := Lib.hid hWW
          have hm0 : 0 ≤ m := hmn
          have hsumst := sum_nonneg st hok.n2
          have hsumb : mv.sum + m ≤ 64000000 := by
            have h3 := hok.sum
            have h4 := stepT_ok (g := g.val) (fr := fr) (ms := ms) HGB.out (by rw [HL.out, Hl.out]; exact HI.out.1.len.symm) hfr HM.out (k + 1) (by rw [HL.out]; omega)
            have h5 : (ms.take (k + 1)).sum = (ms.take k).sum + m := takesum_step HMk.out
            have h2 : (ms.take (k + 1)).sum + (ms.drop (k + 1)).sum = ms.sum := by rw [← List.sum_append, List.take_append_drop]
            have := sum_nonneg (ms.drop (k + 1)) (fun x hx => HM.out x (List.mem_of_mem_drop hx))
            have := HS.out
            simp only at h3
            omega
          have HSB := Lib.hid hsumb
          have hlmv : mv.length = n := by rw [show mv.length = ms.length from hok.l1, HL.out]
          have HLM := Lib.hid hlmv
          have HN1 : Hid (∀ x ∈ mv, 0 ≤ x) := hok.n1
          clear hW hWW hu hv hp e1 e2 hsumst hsumb hlmv hok hsw
          obtain ⟨al, hal⟩ : ∃ al, allOf W = al := ⟨_, rfl⟩
          have HAL := Lib.hid hal
          rw [hal] at halp
          have HSUM2 : Hid ((W.map Stp.slope).sum = al) := HSUM.out.trans hal
          clear hal
          have hd3 : decide ((p : Int) = 0) = false := decide_eq_false (by omega)
          have hd4 : ((p : Int) == 0) = false := by simp; omega
          go_wp2_with fail
          refine (l13Sum_any _ _ _ (W.map Stp.slope) _ (HV.out.sl i64cells_len) (by omega) HFB.out).mono ?_
          rintro e w' ⟨rfl, rfl⟩
          rw [HSUM2.out]
          go_wp2
          have HWr := Lib.hid Hmv.out.lt
          have HCL : Hid (∀ x ∈ W, x.cell.toNat < mv.length) := fun x hx => by
            obtain ⟨_, _, h, _⟩ := HWO.out x hx
            have := h.lt
            rw [h.cell, HLM.out]; rw [show g.val.heights.length = g.heightsN from HI.out.1.len, ← Hl.out] at this; simpa using this
          have HMID := fun i => Lib.hid (mid_ok hm0 HS1.out HNE.out HCL.out HN1.out HSB.out HAL.out i)
          clear m1
          go_loopg [14, 15, 16] p (fun gk l b i wr => ∃ (j q : Nat) (L : Int) (mx : List Int), j ≤ p ∧ gk = p - j ∧ i = .int .i64 j ∧ l = .int .i64 L ∧ b = .int .i64 q ∧ q < p ∧ leftOf m al (W.take j) = L ∧ W[q]? = some (bestOf x0 (W.take j)) ∧ sharesOf m al mv (W.take j) = mx ∧ Span w.heap.size (w.heap.size + 1) w1 wr ∧ IntsAt wr w.heap.size mx)
          case atStart => exact ⟨0, 0, m, mv, Nat.zero_le _, rfl, rfl, rfl, rfl, by omega, by simp [leftOf], HX0.out, rfl, Span.refl _ _ _, Hmv1.out⟩
          case round =>
            obtain ⟨j, q, L, mx, hj, hgj, rfl, rfl, rfl, hq, hL, hbq, hmx, hsp, hix⟩ := hrel
            have hmid := (HMID j).out
            rw [hL, hmx] at hmid
            obtain ⟨hmxl, hmxb, hL0, hL1⟩ := hmid
            have hb2 := Below.span hbw hsp hbw.size (Nat.le_refl _)
            have HB2 := Lib.hid hb2
            have HSP := Lib.hid hsp
            have HIX := Lib.hid hix
            have HLL := Lib.hid hL
            have HBQ := Lib.hid hbq
            have HMX := Lib.hid hmx
            have HMXL := Lib.hid hmxl
            have HMXB := Lib.hid hmxb
            have HGJ := Lib.hid hgj
            have hU2 := HU.out.span hsp (fun kk hk => .inr (by have := (HU.out.lt kk hk).1; have := HWr.out; omega))
            have hV2 := HV.out.span hsp (fun kk hk => .inr (by have := (HV.out.lt kk hk).1; have := HWr.out; omega))
            have HU2 := Lib.hid hU2
            have HV2 := Lib.hid hV2
            have hbg2 : bg < wr.heap.size := Nat.lt_of_lt_of_le hbg0 hb2.size
            have hb12 : b1 < wr.heap.size := Nat.lt_of_lt_of_le hb1w hb2.size
            have m2 : wr.cell? ⟨b1, o1 + k, none⟩ = some (.int .i64 m) := (hb2.cell (p := ⟨b1, o1 + k, none⟩) hb1w).trans M0.out
            clear hgj hL hbq hmx hsp hix hmxl hmxb hU2 hV2 hb2
            by_cases hjp : j < p
            · obtain ⟨y, hy⟩ : ∃ y, W[j]? = some y := ⟨_, List.getElem?_eq_getElem (by rw [HP.out]; exact hjp)⟩
              obtain ⟨d, jc, hway, hin, hgo⟩ := HWO.out y (List.mem_of_getElem? hy)
              have hjc : jc < n := by have := hway.lt; rw [show g.val.heights.length = g.heightsN from HI.out.1.len, ← Hl.out] at this; exact this
              obtain ⟨bu, ou, dy, rfl, hbu, hdk, u0⟩ := ints_at (HU2.out.sl i64cells_len) hjp
              rw [List.getElem?_map, hy] at hdk
              injection hdk with hdk
              rw [← hdk, hway.dir] at u0
              obtain ⟨bv, ov, sy, rfl, hbv, hsk, v0⟩ := ints_at (HV2.out.sl i64cells_len) hjp
              rw [List.getElem?_map, hy] at hsk
              injection hsk with hsk
              rw [← hsk] at v0
              obtain ⟨bv', ov', sq, hA2, hbv2, hsk2, vq⟩ := ints_at (HV2.out.sl i64cells_len) hq
              injection hA2 with e
              injection e with e1 e2 _
              subst e1 e2
              rw [List.getElem?_map, HBQ.out] at hsk2
              injection hsk2 with hsk2
              rw [← hsk2] at vq
              have hne1 : bv ≠ w.heap.size := by
                have := (HV.out.lt bv rfl).1; have := HWr.out; omega
              have NE1 := Lib.hid hne1
              have hbvl := Lib.hid hbv
              have hs1 := hway.s1
              have hs2 := hway.s2
              have hshare := share_one hm0 HS1.out (List.mem_of_getElem? hy)
              rw [HAL.out] at hshare
              obtain ⟨S, hS⟩ : ∃ S, shareOf m al y = S := ⟨_, rfl⟩
              rw [hS] at hshare
              have HSS := Lib.hid hS
              unfold shareOf at hS
              have hmid2 := (HMID (j + 1)).out
              have hL' : leftOf m al (W.take (j + 1)) = L - S := by rw [take_snoc hy, leftOf_snoc, HLL.out, HSS.out]
              have hM' : sharesOf m al mv (W.take (j + 1)) = addAt mx jc S := by rw [take_snoc hy, sharesOf_snoc, HMX.out, HSS.out, hway.cell]; rfl
              have HL' := Lib.hid hL'
              have HM' := Lib.hid hM'
              have HBA := Lib.hid (best_at HBQ.out hy)
              have HGO : Hid (goS g.val k d = jc) := by rw [Hid]; unfold goS; rw [if_pos hin]; exact hgo
              have HD8 := Lib.hid hway.d8
              obtain ⟨bs, hbs⟩ : ∃ bs, (bestOf x0 (W.take j)).slope = bs := ⟨_, rfl⟩
              obtain ⟨sl, hsl⟩ : ∃ sl, y.slope = sl := ⟨_, rfl⟩
              rw [hsl] at v0 hs1 hs2 hS HBA
              rw [hbs] at vq HBA
              have hprod := prod_ok hm0 hmle hs1 hs2
              obtain ⟨hP0, hP1, hP2⟩ := hprod
              have hwS : IntKind.i64.wrap S = S := IntWalk.i64_in _ (by omega)
              obtain ⟨s, hs⟩ : ∃ s, mx[jc]? = some s := ⟨_, List.getElem?_eq_getElem (by rw [HMXL.out, HLM.out]; exact hjc)⟩
              have hsb := HMXB.out s (List.mem_of_getElem? hs)
              have HSJ := Lib.hid hs
              have hsub := fun (g : Sub wr) b o (h : b < wr.heap.size) => g.cell b o h
              have hal0 : al ≠ 0 := by omega
              have V0 := Lib.hid v0
              have VQ := Lib.hid vq
              have U0 := Lib.hid u0
              clear hsk2 hdk hsk hy hway hin hgo hL' hM' hmid2 hbs hsl hs vq u0
              go_wp2_with fail
              refine wp_region_sub (by kernel_rfl) (by kernel_rfl) ?_
              repeat (go_big_quiet_step (fail))
              refine wpQuiet_nil ?_
              intro wg hg
              have ug : wg.cell? ⟨bu, ou + j, none⟩ = some (.int .i64 d) := (hg.cell (p := ⟨bu, ou + j, none⟩) hbu).trans U0.out
              have HIG := Lib.hid (HIX.out.below' hg)
              have hbgg : bg < wg.heap.size := Nat.lt_of_lt_of_le hbg2 hg.size
              have HBG := Lib.hid (HB2.out.trans (hg.mono HB2.out.size))
              have HG := Lib.hid hg
              clear hsub v0 m2 hS hg
              go_wp2_with fail
              refine (l09Go_any g bg offg k d _ HGB.out (by rw [← Hl.out]; exact hlt) HI.out.1.len HD8.out hbgg ((HBG.out.cell hbg0).trans G0.out) ((HBG.out.cell hbg0).trans G1.out)).mono ?_
              rintro e w3 ⟨rfl, hb3⟩
              rw [HGO.out]
              have hIx := HIG.out.below' hb3
              have hB3 := HBG.out.trans (hb3.mono HBG.out.size)
              have s0 : w3.cell? ⟨w.heap.size, jc, none⟩ = some (.int .i64 s) := hIx.cell HSJ.out
              have df := hIx.frozen
              have hSet := hIx.set jc (s + S)
              rw [← addAt_set HSJ.out] at hSet
              have hspn : Span w.heap.size (w.heap.size + 1) w1 (w3.setCell ⟨w.heap.size, jc, none⟩ (.int .i64 (s + S))) := (((HSP.out.trans (Span.of_below HG.out (Nat.le_refl _))).trans (Span.of_below hb3 (Nat.le_refl _)))).setCell (Nat.le_refl _) (by exact Nat.lt_succ_self _) _
              have v3 : w3.cell? ⟨bv, ov + j, none⟩ = some (.int .i64 sl) := (hb3.cell (p := ⟨bv, ov + j, none⟩) (Nat.lt_of_lt_of_le hbvl.out HG.out.size)).trans ((HG.out.cell (p := ⟨bv, ov + j, none⟩) hbvl.out).trans V0.out)
              have vq3 : w3.cell? ⟨bv, ov + q, none⟩ = some (.int .i64 bs) := (hb3.cell (p := ⟨bv, ov + q, none⟩) (Nat.lt_of_lt_of_le hbvl.out HG.out.size)).trans ((HG.out.cell (p := ⟨bv, ov + q, none⟩) hbvl.out).trans VQ.out)
              have hbv3 : bv < w3.heap.size := Nat.lt_of_lt_of_le hbvl.out (Nat.le_trans HG.out.size hb3.size)
              have HSET := Lib.hid hSet
              have HSPN := Lib.hid hspn
              have HB3 := Lib.hid hB3
              clear hIx hSet hspn hB3 hb3 ug
              go_wp2_with fail
              have hkb := Below.heap_setCell w3 ⟨w.heap.size, jc, none⟩ (.int .i64 (s + S)) bv NE1.out
              have v4 := (World.cell?_of_block (a := ⟨bv, ov + j, none⟩) hkb).trans v3
              have vq4 := (World.cell?_of_block (a := ⟨bv, ov + q, none⟩) hkb).trans vq3
              have hbv4 : bv < (w3.setCell ⟨w.heap.size, jc, none⟩ (.int .i64 (s + S))).heap.size := by simpa using hbv3
              clear hkb v3 vq3 hbv3 s0 df
              obtain ⟨w4, hw4⟩ : ∃ w4, w3.setCell ⟨w.heap.size, jc, none⟩ (.int .i64 (s + S)) = w4 := ⟨_, rfl⟩
              rw [hw4] at v4 vq4 hbv4 HSET HSPN ⊢
              clear hw4
              have hsub := fun (g : Sub w4) b o (h : b < w4.heap.size) => g.cell b o h
              by_cases hgt : bs < sl
              · refine wp_region_sub (by kernel_rfl) (by kernel_rfl) ?_
                repeat (go_big_quiet_step (fail))
                refine wpQuiet_nil ?_
                intro wg hg
                have HSPG := Lib.hid (HSPN.out.trans (Span.of_below hg (Nat.le_refl _)))
                have HSETG := Lib.hid (HSET.out.below' hg)
                clear hsub v4 vq4
                rw [if_pos hgt] at HBA
                go_wp2
                go_roundg (p - (j + 1))
                case measure => have := HGJ.out; omega
                case rel => exact ⟨j + 1, j, L - S, addAt mx jc S, by omega, rfl, by go_num, rfl, rfl, by omega, HL'.out, HBA.out, HM'.out, HSPG.out, HSETG.out⟩
              · refine wp_region_sub (by kernel_rfl) (by kernel_rfl) ?_
                repeat (go_big_quiet_step (fail))
                refine wpQuiet_nil ?_
                intro wg hg
                have HSPG := Lib.hid (HSPN.out.trans (Span.of_below hg (Nat.le_refl _)))
                have HSETG := Lib.hid (HSET.out.below' hg)
                clear hsub v4 vq4
                rw [if_neg hgt] at HBA
                go_wp2
                go_roundg (p - (j + 1))
                case measure => have := HGJ.out; omega
                case rel => exact ⟨j + 1, q, L - S, addAt mx jc S, by omega, rfl, by go_num, rfl, rfl, by omega, HL'.out, HBA.out, HM'.out, HSPG.out, HSETG.out⟩
            · have hjp2 : j = p := by omega
              subst hjp2
              have htk : W.take j = W := List.take_of_length_le (by rw [HP.out]; exact Nat.le_refl _)
              have HTK := Lib.hid htk
              clear htk
              obtain ⟨y, hy⟩ : ∃ y, W[q]? = some y := ⟨_, HBQ.out⟩
              have HBY : Hid (bestOf x0 W = y) := by rw [Hid]; have := HBQ.out; rw [HTK.out, hy] at this; injection this with this; exact this.symm
              obtain ⟨d, jc, hway, hin, hgo⟩ := HWO.out y (List.mem_of_getElem? hy)
              have hjc : jc < n := by have := hway.lt; rw [show g.val.heights.length = g.heightsN from HI.out.1.len, ← Hl.out] at this; exact this
              obtain ⟨bu, ou, dy, rfl, hbu, hdk, u0⟩ := ints_at (HU2.out.sl i64cells_len) hq
              rw [List.getElem?_map, hy] at hdk
              injection hdk with hdk
              rw [← hdk, hway.dir] at u0
              have HGO : Hid (goS g.val k d = jc) := by rw [Hid]; unfold goS; rw [if_pos hin]; exact hgo
              have HD8 := Lib.hid hway.d8
              obtain ⟨s, hs⟩ : ∃ s, mx[jc]? = some s := ⟨_, List.getElem?_eq_getElem (by rw [HMXL.out, HLM.out]; exact hjc)⟩
              have hsb := HMXB.out s (List.mem_of_getElem? hs)
              have HSJ := Lib.hid hs
              have HCJ : Hid (y.cell.toNat = jc) := by rw [Hid, hway.cell]; rfl
              clear hdk hy hway hin hgo hs m2
              go_wp2_with fail
              refine (l09Go_any g bg offg k d _ HGB.out (by rw [← Hl.out]; exact hlt) HI.out.1.len HD8.out hbg2 ((HB2.out.cell hbg0).trans G0.out) ((HB2.out.cell hbg0).trans G1.out)).mono ?_
              rintro e w3 ⟨rfl, hb3⟩
              rw [HGO.out]
              have hIx := HIX.out.below' hb3
              have HIX3 := Lib.hid hIx
              have s0 : w3.cell? ⟨w.heap.size, jc, none⟩ = some (.int .i64 s) := hIx.cell HSJ.out
              have df := hIx.frozen
              have HB3 := Lib.hid (HB2.out.trans (hb3.mono HB2.out.size))
              have HSV3 : Hid (IntsAt w3 (w.heap.size + 1) st) := (Hsv1.out.span HSP.out (.inr (Nat.le_refl _))).below' hb3
              have HFIN : Hid (stepC g.val fr m k (mv, st) = (addAt mx jc L, st)) := by
                rw [Hid, HE.out, HAL.out, HBY.out, HCJ.out, ← HLL.out, ← HMX.out, HTK.out]
              clear hIx u0 hb3
              go_wp2
              go_roundg (n - (k + 1))
              case measure => have := Hgk.out; omega
              case rel => exact ⟨k + 1, addAt mx jc L, st, by omega, rfl, by go_num, by rw [HT.out, HFIN.out], HB3.out.setCell (by exact Nat.le_refl _) _, by rw [addAt_set HSJ.out]; exact HIX3.out.set _ _, HSV3.out.other (by omega) _ _⟩
    · have hkn : k = n := by omega
      subst hkn
      have HE : Hid (stepT g.val fr ms k = (mv, st)) := Hst
      have hls := (stepT_len g.val fr ms k)
      go_wp2
      go_ret2
      exact ⟨_, _, rfl, by rw [HE.out]; exact Hmv.out.owns (by have := hls.1; rw [HE.out] at this; simpa [HL.out] using this) (by omega) (Nat.le_refl _), by rw [HE.out]; exact Hsv.out.owns (by have := hls.2; rw [HE.out] at this; simpa [HL.out] using this) (by omega) (Nat.le_succ _), hb⟩

end Go.Proofs.YtphapakhoibamaaGreatDoor
