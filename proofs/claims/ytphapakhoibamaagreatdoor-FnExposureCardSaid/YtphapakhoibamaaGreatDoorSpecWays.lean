/- The reference's slope of a step (l09Fall) and ways down from a cell (l13Ways). -/
import Derived.Test.YtphapakhoibamaaGreatDoorBase
import Derived.Test.YtphapakhoibamaaGreatDoorMem
import Derived.Test.YtphapakhoibamaaGreatDoorTInt64
import Derived.Test.YtphapakhoibamaaGreatDoorWithin
import Derived.Test.YtphapakhoibamaaGreatDoorTGrid
import Derived.Test.YtphapakhoibamaaGreatDoorGrids
import Derived.Test.YtphapakhoibamaaGreatDoorWays
import Derived.Test.YtphapakhoibamaaGreatDoorSpecGo
import Derived.Test.YtphapakhoibamaaGreatDoorPush2
namespace Go.Proofs.YtphapakhoibamaaGreatDoor
open Go.RowKit

def wayB (g : Grid) (fr : Int) (c : Nat) (x : Stp) : Bool := decide (ht g x.cell < ht g c) && decide (fr ≤ x.slope)
def waysT (g : Grid) (fr : Int) (c k : Nat) : List Stp := (nextT g c k).filter (wayB g fr c)
section
variable {g : Grid} {fr : Int} {c k : Nat}
theorem waysT_out (h : inC g c k = false) : waysT g fr c (k + 1) = waysT g fr c k := by unfold waysT; rw [nextT_out h]
theorem waysT_yes (h : inC g c k = true) (hw : wayB g fr c ⟨goC g c k, k, slC g c k⟩ = true) : waysT g fr c (k + 1) = waysT g fr c k ++ [⟨goC g c k, k, slC g c k⟩] := by
  unfold waysT; rw [nextT_in h, List.filter_append]; simp [hw]
theorem waysT_no (h : inC g c k = true) (hw : wayB g fr c ⟨goC g c k, k, slC g c k⟩ = false) : waysT g fr c (k + 1) = waysT g fr c k := by
  unfold waysT; rw [nextT_in h, List.filter_append]; simp [hw]
theorem waysT_len (g : Grid) (fr : Int) (c k : Nat) : (waysT g fr c k).length ≤ k := Nat.le_trans (List.length_filter_le _ _) (nextT_len g c k)
end
set_option maxRecDepth 100000 in
set_option maxHeartbeats 1000000 in
theorem l09Fall_any (g : GridR) (bg offg c j k : Nat) (w : World) (hgi : g.In w) (hgb : gridB g.val = true) (hc : c < g.heightsN) (hjl : j < g.heightsN) (hj : goC g.val c k = j) (hk : k < 8) (hbg0 : bg < w.heap.size)
    (g2 : w.cell? ⟨bg, offg + 2, none⟩ = some (.int .i64 g.size)) (g3 : w.cell? ⟨bg, offg + 3, none⟩ = some (.slice g.heightsA g.heightsN g.heightsC)) :
    Calls Tryz.prog 91 #[.pointer (some ⟨bg, offg, none⟩), .int .i64 c, .int .i64 j, .int .i64 k] w (Ret (.int .i64 (slC g.val c k)) w) := by
  have hgn := hgi.1.le
  have hp := gridB_parts hgb
  obtain ⟨_, _, ⟨hs1, hs2⟩, _, _⟩ := hp
  have hs1' : 1 ≤ g.size := hs1
  have hs2' : g.size ≤ 100 := hs2
  obtain ⟨b3, o3, hA, hb3, hc3, hh0, hh1⟩ := hts_at hgi hgb hc
  obtain ⟨b4, o4, hA', hb4, hc4, hh2, hh3⟩ := hts_at hgi hgb hjl
  rw [hA] at hA'
  injection hA' with e
  injection e with e1 e2 _
  subst e1 e2
  obtain ⟨H1, hH1⟩ : ∃ H1, ht g.val c = H1 := ⟨_, rfl⟩
  obtain ⟨H2, hH2⟩ : ∃ H2, ht g.val j = H2 := ⟨_, rfl⟩
  rw [hH1] at hc3 hh0 hh1
  rw [hH2] at hc4 hh2 hh3
  have HH1 := Lib.hid hH1
  have HH2 := Lib.hid hH2
  have HJ := Lib.hid hj
  have G2 := Lib.hid g2
  rw [hA] at g3
  have hsub := fun (g : Sub w) b o (h : b < w.heap.size) => g.cell b o h
  clear hA hH1 hH2 hj hgi hgb hs1 hs2
  by_cases hpar : k % 2 = 0
  · have hte : ((k : Int)).tmod 2 = 0 := by rw [Int.tmod_eq_emod_of_nonneg (by omega)]; omega
    have HE : Hid (slC g.val c k = rndDiv ((H1 - H2) * 1000) g.size) := by
      rw [Hid]; unfold slC; rw [if_pos hpar, HJ.out, HH1.out, HH2.out, Int.mul_comm]; rfl
    clear hpar
    go_enter Tryz.func91, Tryz.ntmps91
    go_wp2_with fail
    refine wp_region_sub (by kernel_rfl) (by kernel_rfl) ?_
    repeat (go_big_quiet_step (fail))
    refine wpQuiet_nil ?_
    intro wg hg
    have z2 : wg.cell? ⟨bg, offg + 2, none⟩ = some (.int .i64 g.size) := (hg.cell hbg0).trans G2.out
    clear hsub g2 g3 hc3 hc4
    go_wp2_with (go_at_call 111; refine (l01Div_any _ _ _ (by omega) (by omega) (by omega) (by omega) (by omega)).mono ?_; rintro e w' ⟨rfl, rfl⟩)
    go_ret
    exact Ret.i HE.out.symm hg
  · have hte : ((k : Int)).tmod 2 = 1 := by rw [Int.tmod_eq_emod_of_nonneg (by omega)]; omega
    have HE : Hid (slC g.val c k = rndDiv ((H1 - H2) * 1000000) (g.size * 1414)) := by
      rw [Hid]; unfold slC; rw [if_neg hpar, HJ.out, HH1.out, HH2.out, Int.mul_comm, Int.mul_comm 1414]; rfl
    clear hpar
    go_enter Tryz.func91, Tryz.ntmps91
    go_wp2_with fail
    refine wp_region_sub (by kernel_rfl) (by kernel_rfl) ?_
    repeat (go_big_quiet_step (fail))
    refine wpQuiet_nil ?_
    intro wg hg
    have z2 : wg.cell? ⟨bg, offg + 2, none⟩ = some (.int .i64 g.size) := (hg.cell hbg0).trans G2.out
    clear hsub g2 g3 hc3 hc4
    go_wp2_with (go_at_call 111; refine (l01Div_any _ _ _ (by omega) (by omega) (by omega) (by omega) (by omega)).mono ?_; rintro e w' ⟨rfl, rfl⟩)
    go_ret
    exact Ret.i HE.out.symm hg
/-- A call that hands back two slices of its own. -/
def RetLL {α β : Type} (e : TypeId) (sa sb : Nat) (ca : α → List Value) (cb : β → List Value) (xs : List α) (ys : List β) (w : World) (en : Ending) (w' : World) : Prop := ∃ u v, en = .returned (.tuple #[u, v]) ∧ OwnsL w' w.heap.size e sa ca u xs ∧ OwnsL w' w.heap.size e sb cb v ys ∧ Below w.heap.size w w'

set_option maxRecDepth 100000 in
set_option maxHeartbeats 1000000 in
theorem l13Ways_any (g : GridR) (bg offg c : Nat) (fr : Int) (w : World) (hgi : g.In w) (hgb : gridB g.val = true) (hc : c < g.heightsN) (hbg0 : bg < w.heap.size)
    (g0 : w.cell? ⟨bg, offg, none⟩ = some (.int .i64 g.rows)) (g1 : w.cell? ⟨bg, offg + 1, none⟩ = some (.int .i64 g.columns)) (g2 : w.cell? ⟨bg, offg + 2, none⟩ = some (.int .i64 g.size)) (g3 : w.cell? ⟨bg, offg + 3, none⟩ = some (.slice g.heightsA g.heightsN g.heightsC)) :
    Calls Tryz.prog 75 #[.pointer (some ⟨bg, offg, none⟩), .int .i64 c, .int .i64 fr] w (RetLL 2 1 1 i64cells i64cells ((waysT g.val fr c 8).map Stp.dir) ((waysT g.val fr c 8).map Stp.slope) w) := by
  have hgn := hgi.1.le
  have HGl := Lib.hid hgi.1.len
  have HI := Lib.hid hgi
  have HGB := Lib.hid hgb
  have G0 := Lib.hid g0
  have G1 := Lib.hid g1
  have G2 := Lib.hid g2
  have G3 := Lib.hid g3
  clear hgi hgb g0 g1 g2 g3
  go_enter Tryz.func75, Tryz.ntmps75
  go_wp2
  go_loopg [8, 9, 10] 8 (fun gk p q i wr => ∃ (k : Nat) (u v : Value), k ≤ 8 ∧ gk = 8 - k ∧ i = .int .i64 k ∧ u = p ∧ v = q ∧ Below w.heap.size w wr ∧ OwnsL wr w.heap.size 2 1 i64cells u ((waysT g.val fr c k).map Stp.dir) ∧ OwnsL wr w.heap.size 2 1 i64cells v ((waysT g.val fr c k).map Stp.slope) ∧ (∀ b, u.ownBlock = some b → v.ownBlock ≠ some b))
  case atStart =>
    refine ⟨0, _, _, Nat.zero_le _, rfl, rfl, rfl, rfl, ((Below.refl _ _).alloc (Nat.le_refl _) _).alloc (by simp) _, (OwnsL.made w w.heap.size _ _ _ (Nat.le_refl _)).below' ((Below.refl _ _).alloc (Nat.le_refl _) _), ?_, ?_⟩
    · have := OwnsL.made (w.alloc (.cells #[] 2)) w.heap.size 2 1 i64cells (by simp)
      simp at this
      exact this
    · intro b h1 h2
      simp [Value.ownBlock] at h1 h2
      omega
  case round =>
    obtain ⟨k, u, v, hk, hgk, rfl, rfl, rfl, hb, hu, hv, hd⟩ := hrel
    have Hgk := Lib.hid hgk
    have Hu := Lib.hid hu
    have Hv := Lib.hid hv
    have Hd := Lib.hid hd
    clear hgk hu hv hd
    by_cases hlt : k < 8
    · have hbgr : bg < wr.heap.size := Nat.lt_of_lt_of_le hbg0 hb.size
      go_wp2_with fail
      refine (l09Go_any g bg offg c k _ HGB.out hc HGl.out hlt hbgr ((hb.cell hbg0).trans G0.out) ((hb.cell hbg0).trans G1.out)).mono ?_
      rintro e w1 ⟨rfl, hb1⟩
      have hb01 := hb.trans (hb1.mono hb.size)
      have Hu1 := Lib.hid (Hu.out.below' hb1)
      have Hv1 := Lib.hid (Hv.out.below' hb1)
      have hbg1 : bg < w1.heap.size := Nat.lt_of_lt_of_le hbgr hb1.size
      have hsub := fun (g : Sub w1) b o (h : b < w1.heap.size) => g.cell b o h
      cases hin : inC g.val c k
      · have HN : Hid (goS g.val c k = -1) := by rw [Hid]; unfold goS; rw [hin]; rfl
        have HT := Lib.hid (waysT_out (fr := fr) hin)
        rw [HN.out]
        go_wp2_with fail
        refine wp_region_sub (by kernel_rfl) (by kernel_rfl) ?_
        repeat (go_big_quiet_step (fail))
        refine wpQuiet_nil ?_
        intro wg hg
        have hbw := hb01.trans (hg.mono hb01.size)
        have HU := Lib.hid (Hu1.out.below' hg)
        have HV := Lib.hid (Hv1.out.below' hg)
        clear hsub
        go_wp2
        go_roundg (8 - (k + 1))
        case measure => have := Hgk.out; omega
        case rel => exact ⟨k + 1, u, v, by omega, rfl, by go_num, rfl, rfl, hbw, by rw [HT.out]; exact HU.out, by rw [HT.out]; exact HV.out, Hd.out⟩
      · obtain ⟨j, hj, hjl, _, _, _⟩ := goC_in HGB.out hin
        rw [show g.val.heights.length = g.heightsN from HGl.out] at hjl
        have HN : Hid (goS g.val c k = j) := by rw [Hid]; unfold goS; rw [if_pos hin, hj]
        rw [HN.out]
        have hj0 : decide ((j : Int) < 0) = false := decide_eq_false (by omega)
        have HJ := Lib.hid hj
        obtain ⟨b3, o3, hA, hb3, hc3, hh0, hh1⟩ := hts_at (HI.out.below hb01) HGB.out hc
        obtain ⟨b4, o4, hA', hb4, hc4, hh2, hh3⟩ := hts_at (HI.out.below hb01) HGB.out hjl
        rw [hA] at hA'
        injection hA' with e
        injection e with e1 e2 _
        subst e1 e2
        obtain ⟨H1, hH1⟩ : ∃ H1, ht g.val c = H1 := ⟨_, rfl⟩
        obtain ⟨H2, hH2⟩ : ∃ H2, ht g.val j = H2 := ⟨_, rfl⟩
        rw [hH1] at hc3 hh0 hh1
        rw [hH2] at hc4 hh2 hh3
        have HH1 := Lib.hid hH1
        have HH2 := Lib.hid hH2
        have y3 : w1.cell? ⟨bg, offg + 3, none⟩ = some (.slice g.heightsA g.heightsN g.heightsC) := (hb01.cell hbg0).trans G3.out
        rw [hA] at y3
        have HIN := Lib.hid hin
        clear hA hH1 hH2 hj hin
        by_cases hle : H1 ≤ H2
        · have HT : Hid (waysT g.val fr c (k + 1) = waysT g.val fr c k) := by
            rw [Hid]; refine waysT_no HIN.out ?_; unfold wayB; simp only; rw [HJ.out, HH1.out, HH2.out, decide_eq_false (by omega), Bool.false_and]
          go_wp2_with fail
          refine wp_region_sub (by kernel_rfl) (by kernel_rfl) ?_
          repeat (go_big_quiet_step (fail))
          refine wpQuiet_nil ?_
          intro wg hg
          have hbw := hb01.trans (hg.mono hb01.size)
          have HU := Lib.hid (Hu1.out.below' hg)
          have HV := Lib.hid (Hv1.out.below' hg)
          clear hsub y3 hc3 hc4
          go_wp2
          go_roundg (8 - (k + 1))
          case measure => have := Hgk.out; omega
          case rel => exact ⟨k + 1, u, v, by omega, rfl, by go_num, rfl, rfl, hbw, by rw [HT.out]; exact HU.out, by rw [HT.out]; exact HV.out, Hd.out⟩
        · go_wp2_with fail
          refine wp_region_sub (by kernel_rfl) (by kernel_rfl) ?_
          repeat (go_big_quiet_step (fail))
          refine wpQuiet_nil ?_
          intro wg hg
          have hbw := hb01.trans (hg.mono hb01.size)
          have hbg2 : bg < wg.heap.size := Nat.lt_of_lt_of_le hbg1 hg.size
          have HU := Lib.hid (Hu1.out.below' hg)
          have HV := Lib.hid (Hv1.out.below' hg)
          clear hsub y3 hc3 hc4
          go_wp2_with fail
          refine (l09Fall_any g bg offg c j k _ (HI.out.below hbw) HGB.out hc hjl HJ.out hlt hbg2 ((hbw.cell hbg0).trans G2.out) ((hbw.cell hbg0).trans G3.out)).mono ?_
          rintro e w2 ⟨rfl, hb2⟩
          have hbw2 := hbw.trans (hb2.mono hbw.size)
          have HU2 := Lib.hid (HU.out.below' hb2)
          have HV2 := Lib.hid (HV.out.below' hb2)
          obtain ⟨sl, hsl⟩ : ∃ sl, slC g.val c k = sl := ⟨_, rfl⟩
          rw [hsl]
          have HSL := Lib.hid hsl
          have HLE := Lib.hid hle
          clear hsl hle
          by_cases hfr : fr ≤ sl
          · have HT : Hid (waysT g.val fr c (k + 1) = waysT g.val fr c k ++ [⟨j, k, sl⟩]) := by
              rw [Hid, ← HJ.out, ← HSL.out]; refine waysT_yes HIN.out ?_; unfold wayB; simp only; rw [HJ.out, HH1.out, HH2.out, HSL.out, decide_eq_true (by have := HLE.out; omega), decide_eq_true hfr]; rfl
            have hln := waysT_len g.val fr c k
            have Hln := Lib.hid hln
            clear hln
            go_wp2_with (at_builtin; refine wpList_push2 (by rfl) (.tmp 50) (.tmp 52) 24 (by rfl) w.heap.size 2 1 Tryz.underlying24 infoI64 (by rfl) (by decide) i64cells i64cells_len i64cells_one _ u _ (k : Int) (by rfl) (by rfl) HU2.out (by rfl) (by rw [List.length_map]; have := Hln.out; omega) (by decide) hbw2.size ?_)
            intro u' w3 hu' hb3' hk3 ho3
            have HV3 := Lib.hid (HV2.out.kept (fun b hb => hk3 b (HV2.out.lt b hb).2 (fun e => Hd.out b e.symm hb)))
            have Hd3 : Hid (∀ b, u'.ownBlock = some b → v.ownBlock ≠ some b) := by
              intro b h1 h2
              rcases ho3 with e | e
              · exact Hd.out b (by rw [← e, h1]) h2
              · rw [e] at h1; injection h1 with h1; have := (HV2.out.lt b h2).2; omega
            have HU3 := Lib.hid hu'
            have hbw3 := hbw2.trans hb3'
            clear hu' hk3 ho3
            go_wp2_with (at_builtin; refine wpList_push2 (by rfl) (.tmp 54) (.tmp 56) 24 (by rfl) w.heap.size 2 1 Tryz.underlying24 infoI64 (by rfl) (by decide) i64cells i64cells_len i64cells_one _ v _ sl (by rfl) (by rfl) HV3.out (by rfl) (by rw [List.length_map]; have := Hln.out; omega) (by decide) hbw3.size ?_)
            intro v' w4 hv' hb4' hk4 ho4
            have HU4 := Lib.hid (HU3.out.kept (fun b hb => hk4 b (HU3.out.lt b hb).2 (fun e => Hd3.out b hb e.symm)))
            have Hd4 : Hid (∀ b, u'.ownBlock = some b → v'.ownBlock ≠ some b) := by
              intro b h1 h2
              rcases ho4 with e | e
              · exact Hd3.out b h1 (by rw [← e, h2])
              · rw [e] at h2; injection h2 with h2; have := (HU3.out.lt b h1).2; omega
            have HV4 := Lib.hid hv'
            have hbw4 := hbw3.trans hb4'
            clear hv' hk4 ho4
            go_wp2
            go_roundg (8 - (k + 1))
            case measure => have := Hgk.out; omega
            case rel => exact ⟨k + 1, u', v', by omega, rfl, by go_num, rfl, rfl, hbw4, by rw [HT.out, List.map_append]; exact HU4.out, by rw [HT.out, List.map_append]; exact HV4.out, Hd4.out⟩
          · have HT : Hid (waysT g.val fr c (k + 1) = waysT g.val fr c k) := by
              rw [Hid]; refine waysT_no HIN.out ?_; unfold wayB; simp only; rw [HSL.out, decide_eq_false hfr, Bool.and_false]
            go_wp2
            go_roundg (8 - (k + 1))
            case measure => have := Hgk.out; omega
            case rel => exact ⟨k + 1, u, v, by omega, rfl, by go_num, rfl, rfl, hbw2, by rw [HT.out]; exact HU2.out, by rw [HT.out]; exact HV2.out, Hd.out⟩
    · have hkn : k = 8 := by omega
      subst hkn
      go_wp2
      go_ret2
      exact ⟨u, v, rfl, Hu.out, Hv.out, hb⟩

end Go.Proofs.YtphapakhoibamaaGreatDoor
