/- FrictionFor of the reference. -/
import Derived.Test.YtlgnclocdblbmaaFricI
namespace Go.Proofs.Ytlgnclocdblbmaa
open Go.RowKit

theorem has_miss {g : Grid} {ms : List Int} {c : Nat} {f : Int} (hc : c < ms.length) : hasB (reachL g ms f) (c : Int) = !missB g ms c f := by
  unfold reachL missB
  rw [reach_has hc, ← decide_not]
  congr 1
  exact propext ⟨fun h => by omega, fun h => by omega⟩
set_option maxHeartbeats 1000000 in
theorem l09Cell_any (g : GridR) (bg offg : Nat) (cell cells : Int) (w : World) (hm : IntKind.i64.wrap (g.rows * g.columns) = g.rows * g.columns) (hgc : g.rows * g.columns = cells) (hc0 : 0 ≤ cells) (hc1 : cells ≤ 9223372036854775807) (hbg0 : bg < w.heap.size) (g0 : w.cell? ⟨bg, offg, none⟩ = some (.int .i64 g.rows)) (g1 : w.cell? ⟨bg, offg + 1, none⟩ = some (.int .i64 g.columns)) :
    Calls Try.prog 83 #[.pointer (some ⟨bg, offg, none⟩), .int .i64 cell] w (Ret (.bool (inB cell 0 (cells - 1))) w) := by
  rw [hgc] at hm
  have hsub := fun (g : Sub w) b o (h : b < w.heap.size) => g.cell b o h
  go_enter Try.func83, Try.ntmps83
  go_wp2_with fail
  refine wp_region_sub (by kernel_rfl) (by kernel_rfl) ?_
  repeat (go_big_quiet_step (exact Calls.sub_of_same (l00In_any _ _ _ _)))
  refine wpQuiet_nil ?_
  intro wg hg
  go_wp2
  go_ret
  exact Ret.b rfl hg
set_option maxRecDepth 100000 in
set_option maxHeartbeats 2000000 in
theorem specFrictionFor_any (g : GridR) (B : Option Addr) (n d : Nat) (ms : List Int) (cell : Int) (w : World) (hgi : g.In w) (hr : SliceOf w 1 i64cells B n ms) :
    Calls Try.prog 49 #[.agg #[.int .i64 g.rows, .int .i64 g.columns, .int .i64 g.size, .slice g.heightsA g.heightsN g.heightsC], .slice B n d, .int .i64 cell] w (Ret (.tuple #[.int .i64 (fricA g.val ms cell), .int .i64 (fricK g.val ms cell)]) w) := by
  have hB : Below w.heap.size w (w.alloc (.cells #[.int .i64 g.rows, .int .i64 g.columns, .int .i64 g.size, .slice g.heightsA g.heightsN g.heightsC] 29)) := (Below.refl _ _).alloc (Nat.le_refl _) _
  have HO0 := Lib.hid (Own.new w 29 #[.int .i64 g.rows, .int .i64 g.columns, .int .i64 g.size, .slice g.heightsA g.heightsN g.heightsC])
  have HB0 := Lib.hid hB
  have HI0 := Lib.hid (hgi.below hB)
  have HR0 := Lib.hid (hr.below hB)
  have HLn := Lib.hid hr.len
  have HGl : Hid (g.val.heights.length = g.heightsN) := hgi.1.len
  have hgn := hgi.1.le
  have hnle := hr.le
  clear hgi hB hr
  go_enter Try.func49, Try.ntmps49
  go_wp2_with fail
  refine (l09Ok_any g w.heap.size 0 _ HI0.out (by simp) (HO0.out.cell 0) (HO0.out.cell 1) (HO0.out.cell 2) (HO0.out.cell 3)).mono ?_
  rintro e w1 ⟨rfl, hb1⟩
  have HO1 := Lib.hid (HO0.out.below' hb1)
  have HB1 := Lib.hid (HB0.out.trans (hb1.mono HB0.out.size))
  have HI1 := Lib.hid (HI0.out.below hb1)
  have HR1 := Lib.hid (HR0.out.below hb1)
  clear hb1
  cases hgb : gridB g.val
  · have HC : Hid (runCx g.val ms 1 [cell] = 1) := by rw [Hid]; unfold runCx; rw [if_pos hgb]
    have HK2 : Hid (fricK g.val ms cell = 1) := by rw [Hid]; unfold fricK; rw [HC.out, if_neg (by omega)]
    have HA2 : Hid (fricA g.val ms cell = 0) := by rw [Hid]; unfold fricA; rw [HC.out, if_neg (by omega)]
    go_wp2
    go_ret2
    exact Ret.ii HA2.out.symm HK2.out.symm HB1.out
  have hp := (gridB_iff g.val).1 hgb
  have HM := Lib.hid (mul_i64 (inB_iff.1 hp.1) (inB_iff.1 hp.2.1))
  have HL : Hid (g.rows * g.columns = (g.heightsN : Int)) := by have h := of_decide_eq_true hp.2.2.2.1; exact h.symm.trans (congrArg (fun k : Nat => (k : Int)) HGl.out)
  have HGB := Lib.hid hgb
  clear hp
  go_wp2_with fail
  refine (l09Cell_any g w.heap.size 0 cell (g.heightsN : Int) _ HM.out.1 HL.out (by omega) (by omega) HO1.out.lt (HO1.out.cell 0) (HO1.out.cell 1)).mono ?_
  rintro e w2 ⟨rfl, hb2⟩
  have HO2 := Lib.hid (HO1.out.below' hb2)
  have HB2 := Lib.hid (HB1.out.trans (hb2.mono HB1.out.size))
  have HI2 := Lib.hid (HI1.out.below hb2)
  have HR2 := Lib.hid (HR1.out.below hb2)
  clear hb2
  have HALL : Hid (([cell].all fun y => inB y 0 ((g.val.heights.length : Int) - 1)) = inB cell 0 ((g.heightsN : Int) - 1)) := by rw [Hid, HGl.out]; simp
  have h15 : inB 1 1 5000 = true := by decide
  cases hin : inB cell 0 ((g.heightsN : Int) - 1)
  · have HC : Hid (runCx g.val ms 1 [cell] = 2) := by rw [Hid]; unfold runCx; rw [if_neg (by rw [HGB.out]; simp), HALL.out, hin, Bool.and_false, if_pos rfl]
    have HK2 : Hid (fricK g.val ms cell = 2) := by rw [Hid]; unfold fricK; rw [HC.out, if_neg (by omega)]
    have HA2 : Hid (fricA g.val ms cell = 0) := by rw [Hid]; unfold fricA; rw [HC.out, if_neg (by omega)]
    go_wp2
    go_ret2
    exact Ret.ii HA2.out.symm HK2.out.symm HB2.out
  go_wp2_with fail
  refine (l13Masses_any g w.heap.size 0 _ n d ms _ HR2.out HGl.out HGB.out HO2.out.lt (HO2.out.cell 0) (HO2.out.cell 1)).mono ?_
  rintro e w3 ⟨rfl, hb3⟩
  have HO3 := Lib.hid (HO2.out.below' hb3)
  have HB3 := Lib.hid (HB2.out.trans (hb3.mono HB2.out.size))
  have HI3 := Lib.hid (HI2.out.below hb3)
  have HR3 := Lib.hid (HR2.out.below hb3)
  clear hb3
  cases hms : massB g.val ms
  · have HC : Hid (runCx g.val ms 1 [cell] = 7) := by rw [Hid]; unfold runCx; rw [if_neg (by rw [HGB.out]; simp), HALL.out, hin, h15, if_neg (by simp), if_pos hms]
    have HK2 : Hid (fricK g.val ms cell = 7) := by rw [Hid]; unfold fricK; rw [HC.out, if_neg (by omega)]
    have HA2 : Hid (fricA g.val ms cell = 0) := by rw [Hid]; unfold fricA; rw [HC.out, if_neg (by omega)]
    go_wp2
    go_ret2
    exact Ret.ii HA2.out.symm HK2.out.symm HB3.out
  have hc : runCx g.val ms 1 [cell] = 0 := by unfold runCx; rw [if_neg (by rw [HGB.out]; simp), HALL.out, hin, h15, if_neg (by simp), if_neg (by rw [hms]; simp)]
  have HC := Lib.hid hc
  obtain ⟨hk0, c, rfl, hcn⟩ := runCx_zero hc
  have HK := Lib.hid hk0
  have HCN := Lib.hid hcn
  rw [HLn.out] at hcn
  have HNN : Hid (n = g.heightsN) := hk0.n HI3.out HR3.out
  have hn64 : n ≤ 64 := by rw [← HLn.out]; exact (runOk_n64 hk0).2
  obtain ⟨bB, oB, m, rfl, hbB, hmc, m0⟩ := ints_at HR3.out hcn
  have HGD : Hid (ms.getD ((c : Nat) : Int).toNat 0 = m) := by rw [Hid, Int.toNat_natCast, List.getD_eq_getElem?_getD, hmc]; rfl
  clear hk0 hmc hc h15 hgb hin hms
  by_cases hmp : 0 < m
  · have HK2 : Hid (fricK g.val ms c = 6) := by rw [Hid]; unfold fricK; rw [if_pos HC.out, HGD.out, if_pos hmp]
    have HA2 : Hid (fricA g.val ms c = 0) := by rw [Hid]; unfold fricA; rw [if_pos HC.out, HGD.out, if_pos hmp]
    go_wp2
    go_ret2
    exact Ret.ii HA2.out.symm HK2.out.symm HB3.out
  have hd : decide (0 < m) = false := decide_eq_false hmp
  have HK2 : Hid (fricK g.val ms c = if (fricV g.val ms c).isSome then 0 else 3) := by rw [Hid]; unfold fricK; rw [if_pos HC.out, HGD.out, if_neg hmp]
  have HA2 : Hid (fricA g.val ms c = (fricV g.val ms c).getD 0) := by rw [Hid]; unfold fricA; rw [if_pos HC.out, HGD.out, if_neg hmp]
  have HCALL : ∀ (f : Int) (ww : World), 1 ≤ f → f ≤ 5000 → Below w3.heap.size w3 ww → Calls Try.prog 69 #[.pointer (some ⟨w.heap.size, 0, none⟩), .slice (some ⟨bB, oB, none⟩) n d, .int .i64 f] ww (RetL 2 1 i64cells (reachL g.val ms f) ww) := fun f ww h1 h2 hb => by
    have hO := HO3.out.below' hb
    exact l13Reached_any g w.heap.size 0 _ n d ms f ww (HI3.out.below hb) (HK.out.at_ h1 h2) (HR3.out.below hb) hO.lt (hO.cell 0) (hO.cell 1) (hO.cell 2) (hO.cell 3)
  have HCL := Lib.hid HCALL
  go_wp2_with fail
  clear m0 hd hmp
  refine (HCL.out 1 _ (by omega) (by omega) (Below.refl _ _)).mono ?_
  rintro e w4 ⟨v, rfl, hv, hb4⟩
  obtain ⟨A4, c4, rfl, _, _, hs4⟩ := hv.slice i64cells_len
  obtain ⟨p4, hp4⟩ : ∃ p, (reachL g.val ms 1).length = p := ⟨_, rfl⟩
  rw [hp4] at hs4
  simp only [hp4]
  clear hv hp4 HCALL
  have HB4 := Lib.hid hb4
  have HH1 : Hid (hasB (reachL g.val ms 1) (c : Int) = !missB g.val ms c 1) := has_miss HCN.out
  go_wp2_with fail
  refine (l00Has_any (c : Int) _ _ _ (reachL g.val ms 1) _ hs4).mono ?_
  rintro e w' ⟨rfl, rfl⟩
  rw [HH1.out]
  clear hs4
  cases hm1 : missB g.val ms c 1
  · have HM1 := Lib.hid hm1
    have HMW : IntKind.i64.wrap (g.rows * g.columns) = g.rows * g.columns := HM.out.1
    have HLW := HL.out
    rw [HLW] at HMW
    clear hm1
    simp only [Bool.not_false]
    go_wp2
    go_loopg [8, 9, 10] g.heightsN (fun gk bb ff i wr => ∃ (k : Nat) (b : Int) (fd : Bool), k ≤ g.heightsN ∧ gk = g.heightsN - k ∧ i = .int .i64 k ∧ bb = .int .i64 b ∧ ff = .bool fd ∧ Kept (missB g.val ms c) (searchL g.val k) b fd ∧ Below w3.heap.size w3 wr)
    case atStart => exact ⟨0, 5000, false, Nat.zero_le _, rfl, rfl, rfl, rfl, Kept.start _, HB4.out⟩
    case round =>
      obtain ⟨k, b, fd, hk, hgk, rfl, rfl, rfl, hkp, hb⟩ := hrel
      have Hgk := Lib.hid hgk
      have HKP := Lib.hid hkp
      have HBB := Lib.hid hb
      have hO := HO3.out.below' hb
      have y0 : wr.cell? ⟨w.heap.size, 0, none⟩ = some (.int .i64 g.rows) := hO.cell 0
      have y1 : wr.cell? ⟨w.heap.size, 1, none⟩ = some (.int .i64 g.columns) := hO.cell 1
      have HOB := Lib.hid hO
      clear hgk hkp hO
      by_cases hlt : k < g.heightsN
      · go_wp2_with fail
        refine (l13Ways_any g w.heap.size 0 k 1 _ (HI3.out.below HBB.out) HGB.out hlt HOB.out.lt (HOB.out.cell 0) (HOB.out.cell 1) (HOB.out.cell 2) (HOB.out.cell 3)).mono ?_
        rintro e w5 ⟨u, v, rfl, hu, hv, hb5⟩
        clear y0 y1
        obtain ⟨W, hW⟩ : ∃ W, waysT g.val 1 k 8 = W := ⟨_, rfl⟩
        rw [hW] at hu hv
        have HWS : Hid (∀ x ∈ W, 1 ≤ x.slope ∧ x.slope ≤ 5000000001) := fun x hx => by
          rw [← hW] at hx
          obtain ⟨_, _, h, _⟩ := waysT_ok HGB.out (by rw [HGl.out]; exact hlt) (by omega) hx
          exact ⟨h.s1, h.s2⟩
        have HSE : Hid (searchL g.val (k + 1) = searchL g.val k ++ W.map fun x => x.slope + 1) := by rw [Hid, ← hW]; rfl
        obtain ⟨A1, c1, rfl, _, _, _⟩ := hu.slice i64cells_len
        obtain ⟨A2, c2, rfl, _, _, hsw⟩ := hv.slice i64cells_len
        obtain ⟨p, hp⟩ : ∃ p, W.length = p := ⟨_, rfl⟩
        have e2 : (W.map Stp.slope).length = p := by rw [List.length_map, hp]
        have e1 : (W.map Stp.dir).length = p := by rw [List.length_map, hp]
        simp only [e1, e2] at hsw ⊢
        have HSW := Lib.hid hsw
        have HP := Lib.hid hp
        have hple := hsw.le
        have HB5 := Lib.hid (HBB.out.trans (hb5.mono HBB.out.size))
        clear hu hv hsw hW e1 e2 hp hb5
        go_wp2
        go_loopg [8, 9, 13] p (fun gk bb ff i wr => ∃ (j : Nat) (b : Int) (fd : Bool), j ≤ p ∧ gk = p - j ∧ i = .int .i64 j ∧ bb = .int .i64 b ∧ ff = .bool fd ∧ Kept (missB g.val ms c) (searchL g.val k ++ ((W.take j).map fun x => x.slope + 1)) b fd ∧ Below w5.heap.size w5 wr)
        case atStart => exact ⟨0, b, fd, Nat.zero_le _, rfl, rfl, rfl, rfl, by simpa using HKP.out, Below.refl _ _⟩
        case round =>
          obtain ⟨j, b, fd, hj, hgj, rfl, rfl, rfl, hkp, hbj⟩ := hrel
          have HGJ := Lib.hid hgj
          have HKJ := Lib.hid hkp
          have HBJ := Lib.hid hbj
          have HBW := Lib.hid (HB5.out.trans (hbj.mono HB5.out.size))
          clear hgj hkp
          by_cases hjp : j < p
          · obtain ⟨y, hy⟩ : ∃ y, W[j]? = some y := ⟨_, List.getElem?_eq_getElem (by rw [HP.out]; exact hjp)⟩
            obtain ⟨b4, o4, sy, rfl, hb4', hsy, v0⟩ := ints_at (HSW.out.below hbj) hjp
            rw [List.getElem?_map, hy] at hsy
            injection hsy with hsy
            obtain ⟨hs1, hs2⟩ := HWS.out y (List.mem_of_getElem? hy)
            have HSN : Hid (searchL g.val k ++ ((W.take (j + 1)).map fun x => x.slope + 1) = (searchL g.val k ++ ((W.take j).map fun x => x.slope + 1)) ++ [sy + 1]) := by
              rw [Hid, take_snoc hy, List.map_append, ← List.append_assoc, ← hsy]; rfl
            rw [hsy] at hs1 hs2
            have hbj' := hbj
            clear hy hsy
            by_cases h1 : sy + 1 ≤ b
            · by_cases h2 : sy + 1 ≤ 5000
              · go_wp2_with fail
                refine (HCL.out (sy + 1) _ (by omega) h2 HBW.out).mono ?_
                rintro e w6 ⟨v6, rfl, hv6, hb6⟩
                obtain ⟨A6, c6, rfl, _, _, hs6⟩ := hv6.slice i64cells_len
                obtain ⟨p6, hp6⟩ : ∃ q, (reachL g.val ms (sy + 1)).length = q := ⟨_, rfl⟩
                rw [hp6] at hs6
                simp only [hp6]
                have HH6 : Hid (hasB (reachL g.val ms (sy + 1)) (c : Int) = !missB g.val ms c (sy + 1)) := has_miss HCN.out
                have HB6 := Lib.hid (hbj.trans (hb6.mono hbj.size))
                clear hv6 hp6 v0 hb6
                go_wp2_with fail
                refine (l00Has_any (c : Int) _ _ _ (reachL g.val ms (sy + 1)) _ hs6).mono ?_
                rintro e w' ⟨rfl, rfl⟩
                rw [HH6.out]
                clear hs6
                cases hmm : missB g.val ms c (sy + 1)
                · have HKN := Lib.hid (HKJ.out.leave (f := sy + 1) (by rw [hmm]; simp))
                  simp only [Bool.not_false]
                  clear hmm
                  go_wp2
                  go_roundg (p - (j + 1))
                  case measure => have := HGJ.out; omega
                  case rel => exact ⟨j + 1, b, fd, by omega, rfl, by go_num, rfl, rfl, by rw [HSN.out]; exact HKN.out, HB6.out⟩
                · have HKN := Lib.hid (HKJ.out.take h1 h2 hmm)
                  simp only [Bool.not_true]
                  clear hmm
                  go_wp2
                  go_roundg (p - (j + 1))
                  case measure => have := HGJ.out; omega
                  case rel => exact ⟨j + 1, sy + 1, true, by omega, rfl, by go_num, rfl, rfl, by rw [HSN.out]; exact HKN.out, HB6.out⟩
              · have hd2 : decide (sy + 1 ≤ 5000) = false := decide_eq_false h2
                have HKN := Lib.hid (HKJ.out.leave (f := sy + 1) (fun h => h2 h.2.1))
                go_wp2
                go_roundg (p - (j + 1))
                case measure => have := HGJ.out; omega
                case rel => exact ⟨j + 1, b, fd, by omega, rfl, by go_num, rfl, rfl, by rw [HSN.out]; exact HKN.out, HBJ.out⟩
            · have hd1 : decide (sy + 1 ≤ b) = false := decide_eq_false h1
              have HKN := Lib.hid (HKJ.out.leave (f := sy + 1) (fun h => h1 h.1))
              go_wp2
              go_roundg (p - (j + 1))
              case measure => have := HGJ.out; omega
              case rel => exact ⟨j + 1, b, fd, by omega, rfl, by go_num, rfl, rfl, by rw [HSN.out]; exact HKN.out, HBJ.out⟩
          · have hjp2 : j = p := by omega
            subst hjp2
            have HKN : Hid (Kept (missB g.val ms c) (searchL g.val (k + 1)) b fd) := by
              have h := HKJ.out
              rw [List.take_of_length_le (by rw [HP.out]; exact Nat.le_refl _)] at h
              rw [Hid, HSE.out]; exact h
            go_wp2
            go_roundg (g.heightsN - (k + 1))
            case measure => have := Hgk.out; omega
            case rel => exact ⟨k + 1, b, fd, by omega, rfl, by go_num, rfl, rfl, HKN.out, HBW.out⟩
      · have hkn : k = g.heightsN := by omega
        have HV : Hid (fricV g.val ms (c : Nat) = if fd then some b else none) := by
          rw [Hid]; unfold fricV; rw [Int.toNat_natCast, HGl.out, ← hkn]
          exact fric_kept HM1.out (fun f => cand_search HGB.out k f) HKP.out
        have HBE := Lib.hid (HB3.out.trans (hb.mono HB3.out.size))
        cases fd
        · have HK3 : Hid (fricK g.val ms c = 3) := by rw [Hid, HK2.out, HV.out]; rfl
          have HA3 : Hid (fricA g.val ms c = 0) := by rw [Hid, HA2.out, HV.out]; rfl
          go_wp2
          go_ret2
          exact Ret.ii HA3.out.symm HK3.out.symm HBE.out
        · have HK3 : Hid (fricK g.val ms c = 0) := by rw [Hid, HK2.out, HV.out]; rfl
          have HA3 : Hid (fricA g.val ms c = b) := by rw [Hid, HA2.out, HV.out]; rfl
          go_wp2
          go_ret2
          exact Ret.ii HA3.out.symm HK3.out.symm HBE.out
  · have HV : Hid (fricV g.val ms (c : Nat) = some 1) := by
      rw [Hid]; unfold fricV; rw [Int.toNat_natCast]
      exact fric_one hm1 (fun f hf => (candL_in g.val _ f hf).1)
    have HK3 : Hid (fricK g.val ms c = 0) := by rw [Hid, HK2.out, HV.out]; rfl
    have HA3 : Hid (fricA g.val ms c = 1) := by rw [Hid, HA2.out, HV.out]; rfl
    simp only [Bool.not_true]
    go_wp2
    go_ret2
    exact Ret.ii HA3.out.symm HK3.out.symm (HB3.out.trans (HB4.out.mono HB3.out.size))

end Go.Proofs.Ytlgnclocdblbmaa
