/- The walk of the law FnFields: it returns true. -/
import Derived.Test.YtllchmacipacnaaGreatDoorFldI
import Derived.Test.YtllchmacipacnaaGreatDoorFldW
import Derived.Test.YtllchmacipacnaaGreatDoorFldQ
import Derived.Test.YtllchmacipacnaaGreatDoorFldX
import Derived.Deep.RegionHeld3
import Derived.Deep.RegionLaw
import Derived.BigQuiet
namespace Go.Proofs.YtllchmacipacnaaGreatDoor
open Go.RowKit

set_option maxHeartbeats 400000 in
theorem b10LongF_any (A : Option Addr) (n c : Nat) (w : World) (hn : n ≤ 9223372036854775807) : Calls Tryz.prog 4 #[.slice A n c] w (RetS (.bool (decide (1048576 < n))) w) := by
  go_enter Tryz.func4, Tryz.ntmps4
  by_cases h1 : 1048576 < n
  · have HD : Hid (decide (1048576 < n) = true) := decide_eq_true h1
    go_wp2
    go_ret
    exact RetS.b (by first | rfl | exact HD.out.symm | (rw [HD.out]; exact decide_eq_true (by omega)) | (rw [HD.out]; exact decide_eq_false (by omega)))
  · have HD : Hid (decide (1048576 < n) = false) := decide_eq_false h1
    go_wp2
    go_ret
    exact RetS.b (by first | rfl | exact HD.out.symm | (rw [HD.out]; exact decide_eq_true (by omega)) | (rw [HD.out]; exact decide_eq_false (by omega)))
theorem hasB_cells {gs : List Int} {least : Int} {n i : Nat} {x : Int} (hi : i < n) (hx : gs[i]? = some x) : hasB (cellsTo gs least n) (i : Int) = decide (least ≤ x) := by
  have hv : lvF gs i = x := lvF_at hx
  by_cases h : least ≤ x
  · rw [decide_eq_true h, hasB_iff, cellsTo_mem]
    exact ⟨i, hi, rfl, by rw [hv]; exact h⟩
  · rw [decide_eq_false h, Bool.eq_false_iff]
    intro e
    rw [hasB_iff, cellsTo_mem] at e
    obtain ⟨j, _, he, hj⟩ := e
    have : i = j := by omega
    subst this
    rw [hv] at hj
    exact h hj
set_option maxRecDepth 100000 in
set_option maxHeartbeats 4000000 in
theorem walk_FnFields (A0 : Option Addr) (n0 c0 : Nat) (x0 : List Int) (A1 : Option Addr) (n1 c1 : Nat) (x1 : List Int) (w : World) (s0 : SliceOf w 1 u8cells A0 n0 x0) (g0 : ∀ x ∈ x0, 0 ≤ x ∧ x ≤ 255) (s1 : SliceOf w 1 u8cells A1 n1 x1) (g1 : ∀ x ∈ x1, 0 ≤ x ∧ x ≤ 255) (ht : LibAt w.heap.size w) :
    Calls Tryz.prog 3 #[.slice A0 n0 c0, .slice A1 n1 c1] w (Ret (.bool true) w) := by
  have S0 := Lib.hid s0
  have S1 := Lib.hid s1
  have G0 := Lib.hid g0
  have G1 := Lib.hid g1
  have HLB := Lib.hid ht
  have hn0 := s0.le
  have hn1 := s1.le
  clear s0 s1 g0 g1 ht
  cases hl0 : decide (1048576 < n0)
  rotate_left
  · go_enter Tryz.func3, Tryz.ntmps3
    go_wp2_with (go_at_call 4; refine (b10LongF_any _ _ _ _ hn0).mono ?_; rintro e w' ⟨rfl, rfl⟩; rw [hl0])
    go_ret
    exact Ret.b rfl (Below.refl _ _)
  cases hl1 : decide (1048576 < n1)
  rotate_left
  · go_enter Tryz.func3, Tryz.ntmps3
    go_wp2_with (go_at_call 4; first | (refine (b10LongF_any A0 n0 c0 _ hn0).mono ?_; rintro e w' ⟨rfl, rfl⟩; rw [hl0]) | (refine (b10LongF_any A1 n1 c1 _ hn1).mono ?_; rintro e w' ⟨rfl, rfl⟩; rw [hl1]))
    go_ret
    exact Ret.b rfl (Below.refl _ _)
  go_enter Tryz.func3, Tryz.ntmps3
  go_wp2_with fail
  refine (b10LongF_any A0 n0 c0 _ hn0).mono ?_
  rintro e w' ⟨rfl, rfl⟩
  rw [hl0]
  go_wp2_with fail
  refine (b10LongF_any A1 n1 c1 _ hn1).mono ?_
  rintro e w' ⟨rfl, rfl⟩
  rw [hl1]
  clear hl0 hl1 hn0 hn1
  go_wp2_with fail
  refine (drawSnowOver_any A0 n0 c0 x0 w S0.out G0.out).mono ?_
  rintro e w1 ⟨f, mass, rfl, hfi, hb1⟩
  obtain ⟨X2, hX2⟩ : ∃ X2, w1.heap.size = X2 := ⟨_, rfl⟩
  obtain ⟨w2, hw2⟩ : ∃ w2, w1.alloc (.cells #[.int .i64 f.rows, .int .i64 f.columns, .slice f.massesA f.massesN f.massesC] 26) = w2 := ⟨_, rfl⟩
  have hbw2 : Below w1.heap.size w1 w2 := by rw [← hw2]; exact (Below.refl _ _).alloc (Nat.le_refl _) _
  have HO2 : Hid (Own w2 X2 26 #[.int .i64 f.rows, .int .i64 f.columns, .slice f.massesA f.massesN f.massesC]) := by rw [Hid, ← hw2, ← hX2]; exact Own.new _ _ _
  have HWw2 := Lib.hid hw2
  have HEX2 := Lib.hid hX2
  have HF2 := Lib.hid (hfi.below hbw2)
  have HB2 := Lib.hid (hb1.trans (hbw2.mono hb1.size))
  clear hfi hb1 hbw2 hw2 hX2
  go_wp2_with fail
  rw [HWw2.out, HEX2.out]
  refine (snowOver_any f mass w2 HF2.out).mono ?_
  rintro e w3 ⟨⟨pr, pc, pA, pN, pC, pm⟩, code, rfl, hb3, hpi, hyes⟩
  try simp only at hyes hpi
  obtain ⟨X4, hX4⟩ : ∃ X4, w3.heap.size = X4 := ⟨_, rfl⟩
  obtain ⟨w4, hw4⟩ : ∃ w4, w3.alloc (.cells #[.int .i64 pr, .int .i64 pc, .slice pA pN pC] 26) = w4 := ⟨_, rfl⟩
  have hbw4 : Below w3.heap.size w3 w4 := by rw [← hw4]; exact (Below.refl _ _).alloc (Nat.le_refl _) _
  have HO4 : Hid (Own w4 X4 26 #[.int .i64 pr, .int .i64 pc, .slice pA pN pC]) := by rw [Hid, ← hw4, ← hX4]; exact Own.new _ _ _
  have HWw4 := Lib.hid hw4
  have HEX4 := Lib.hid hX4
  have HYES := Lib.hid hyes
  have HF4 := Lib.hid ((HF2.out.below hb3).below hbw4)
  have HP4 := Lib.hid (hpi.below hbw4)
  have HO24 := Lib.hid ((HO2.out.below' hb3).below' hbw4)
  have HB4 := Lib.hid (HB2.out.trans ((hb3.trans (hbw4.mono hb3.size)).mono HB2.out.size))
  clear hyes hb3 hpi hbw4 hw4 hX4
  go_upto_region 5 with fail
  rw [HWw4.out, HEX4.out]
  clear HWw4 HEX4
  by_cases hz : code = 0
  rotate_left
  · have hne : (code == 0) = false := by simp [hz]
    have HBZ := HB4
    clear hz HYES HF4 HP4 HO24 HO4 HB4 HB2 HF2 HO2
    go_wp2_with fail
    refine (drawLoaded_any A1 n1 c1 x1 w4 (S1.out.below HBZ.out) G1.out).mono ?_
    rintro e a1 ⟨g, GA, gn, gc, gl, share, least, rfl, hgi, hgs, hba1⟩
    obtain ⟨X15, hX15⟩ : ∃ X15, a1.heap.size = X15 := ⟨_, rfl⟩
    obtain ⟨a2, ha2⟩ : ∃ a2, a1.alloc (.cells #[.int .i64 g.rows, .int .i64 g.columns, .slice g.massesA g.massesN g.massesC] 26) = a2 := ⟨_, rfl⟩
    have hba2 : Below a1.heap.size a1 a2 := by rw [← ha2]; exact (Below.refl _ _).alloc (Nat.le_refl _) _
    have HG2 : Hid (Own a2 X15 26 #[.int .i64 g.rows, .int .i64 g.columns, .slice g.massesA g.massesN g.massesC]) := by rw [Hid, ← ha2, ← hX15]; exact Own.new _ _ _
    have HWa2 := Lib.hid ha2
    have HEX15 := Lib.hid hX15
    have HGI := Lib.hid (hgi.below hba2)
    have HGS := Lib.hid (hgs.below hba2)
    have HBA2 := Lib.hid (HBZ.out.trans ((hba1.trans (hba2.mono hba1.size)).mono HBZ.out.size))
    clear hgi hgs hba1 hba2 ha2 hX15 HBZ
    go_wp2_with fail
    rw [HWa2.out, HEX15.out]
    clear HWa2 HEX15
    refine (implLoadedCells_any g GA gn gc gl share least a2 HGI.out HGS.out).mono ?_
    rintro e a3 ⟨cv, code4, rfl, hba3, hno4, hyes4⟩
    have HBA3 := Lib.hid (HBA2.out.trans (hba3.mono HBA2.out.size))
    have HGI3 := Lib.hid (HGI.out.below hba3)
    have HGS3 := Lib.hid (HGS.out.below hba3)
    have HG23 := Lib.hid (HG2.out.below' hba3)
    have HYES4 := Lib.hid hyes4
    clear hba3 hyes4 HGI HGS HG2 HBA2
    by_cases hz4 : code4 = 0
    rotate_left
    · have hne4 : (code4 == 0) = false := by simp [hz4]
      obtain rfl := hno4 hz4
      clear hz4 hno4 HYES4
      go_wp2
      go_ret
      exact Ret.b rfl HBA3.out
    subst hz4
    obtain ⟨m, hran, hml, hown⟩ := HYES4.out rfl
    obtain ⟨CA, cc, rfl, _, _, hcs⟩ := hown.slice i64cells_len
    have HRAN := Lib.hid hran
    have HML := Lib.hid hml
    have hgfl : g.masses.length = g.massesN := HGI3.out.1.len
    have hgnl : (gainF g.masses m).length = g.massesN := by rw [gainF_len (by rw [hml, hgfl]), hgfl]
    have HGNL := Lib.hid hgnl
    obtain ⟨cn, hcn⟩ : ∃ cn, (cellsTo (gainF g.masses m) least g.massesN).length = cn := ⟨_, rfl⟩
    rw [hcn] at hcs ⊢
    have HCS := Lib.hid hcs
    have hgn64 : g.massesN ≤ 64 := by
      obtain ⟨_, _, _, _, _, _, _, _, hl, h64, _⟩ := fieldB_nat hran.1
      have h1 : g.val.masses.length = g.masses.length := rfl
      omega
    have HCM : Hid (∀ x ∈ cellsTo (gainF g.masses m) least g.massesN, 0 ≤ x ∧ x < (g.massesN : Int)) := fun x hx => by
      obtain ⟨i, hi, rfl, _⟩ := cellsTo_mem.1 hx
      omega
    clear hno4 hran hml hown hcs hcn hgnl HYES4
    have y0 := HG23.out.cell 0
    have y1 := HG23.out.cell 1
    have y2 := HG23.out.cell 2
    simp at y0 y1 y2
    go_wp2_with fail
    clear y0 y1 y2
    refine (specDriftGain_ok g GA gn gc gl share m a3 HGI3.out HGS3.out HRAN.out).mono ?_
    rintro e a4 ⟨_, rfl, ⟨u, rfl, hou⟩, hba4⟩
    obtain ⟨UA, uc, rfl, _, _, hus⟩ := hou.slice i64cells_len
    rw [HGNL.out] at hus ⊢
    have HUS := Lib.hid hus
    have HBA4 := Lib.hid (HBA3.out.trans (hba4.mono HBA3.out.size))
    have HCS4 := Lib.hid (HCS.out.below hba4)
    obtain ⟨gs, hgs⟩ : ∃ gs, gainF g.masses m = gs := ⟨_, rfl⟩
    rw [hgs] at HUS HCS4 HCM HGNL
    obtain ⟨N, hN⟩ : ∃ N, g.massesN = N := ⟨_, rfl⟩
    rw [hN] at HUS HCS4 HCM HGNL hgn64 ⊢
    clear hou hus hba4 hgs hN HGI3 HGS3 HG23 HCS HBA3 HRAN HML hgfl
    go_wp2_with fail
    refine (b10Rises_ok CA cn cc N (cellsTo gs least N) a4 HCS4.out HCM.out (cellsTo_rise N)).mono ?_
    rintro e a5 ⟨rfl, hba5⟩
    have HBA5 := Lib.hid (HBA4.out.trans (hba5.mono HBA4.out.size))
    have HCS5 := Lib.hid (HCS4.out.below hba5)
    have HUS5 := Lib.hid (HUS.out.below hba5)
    clear hba5 HCS4 HUS HBA4 HCM
    go_wp2
    go_loopg [23] N (fun gk s23 wr => ∃ i : Nat, i ≤ N ∧ gk = N - i ∧ s23 = .int .i64 i ∧ Below a5.heap.size a5 wr)
    case atStart => exact ⟨0, Nat.zero_le _, rfl, rfl, Below.refl _ _⟩
    case round =>
      obtain ⟨i, hi, hgi, rfl, hb⟩ := hrel
      have HGII := Lib.hid hgi
      have HBR := Lib.hid hb
      clear hgi hb
      by_cases hlt : i < N
      · obtain ⟨bu, ou, x, rfl, hbu, hxu, xu⟩ := ints_at (HUS5.out.below HBR.out) hlt
        have HCR := Lib.hid (HCS5.out.below HBR.out)
        have hhas := hasB_cells (gs := gs) (least := least) hlt hxu
        have hsub := fun (q : Sub wr) b o (h : b < wr.heap.size) => q.cell b o h
        clear hxu
        cases hd : decide (least ≤ x)
        · rw [hd] at hhas
          go_wp2_with fail
          refine wp_region_sub (by kernel_rfl) (by kernel_rfl) ?_
          repeat (go_big_quiet_step (exact Calls.sub_of_same_eq (b10Has_any (i : Int) CA cn cc (cellsTo gs least N) _ (HCR.out.below (Sub.below _))) (congrArg Value.bool hhas)))
          refine wpQuiet_nil ?_
          intro wg hg
          have HBG := Lib.hid (HBR.out.trans (hg.mono HBR.out.size))
          clear hsub xu hbu hg hhas hd
          go_wp2
          go_roundg (N - (i + 1))
          case measure => have := HGII.out; omega
          case rel => exact ⟨i + 1, by omega, rfl, by go_num, HBG.out⟩
        · rw [hd] at hhas
          go_wp2_with fail
          refine wp_region_sub (by kernel_rfl) (by kernel_rfl) ?_
          repeat (go_big_quiet_step (exact Calls.sub_of_same_eq (b10Has_any (i : Int) CA cn cc (cellsTo gs least N) _ (HCR.out.below (Sub.below _))) (congrArg Value.bool hhas)))
          refine wpQuiet_nil ?_
          intro wg hg
          have HBG := Lib.hid (HBR.out.trans (hg.mono HBR.out.size))
          clear hsub xu hbu hg hhas hd
          go_wp2
          go_roundg (N - (i + 1))
          case measure => have := HGII.out; omega
          case rel => exact ⟨i + 1, by omega, rfl, by go_num, HBG.out⟩
      obtain rfl : i = N := by omega
      have HBB : Hid (Below w.heap.size w wr) := HBA5.out.trans (HBR.out.mono HBA5.out.size)
      clear HCS5 HUS5 HBA5 HBR
      go_wp2_with fail
      refine (drawSettled_any A0 n0 c0 x0 wr (S0.out.below HBB.out) G0.out).mono ?_
      rintro e d1 ⟨h, part, limit, rfl, hhi, hbd1⟩
      obtain ⟨X24, hX24⟩ : ∃ X24, d1.heap.size = X24 := ⟨_, rfl⟩
      obtain ⟨d2, hd2⟩ : ∃ d2, d1.alloc (.cells #[.int .i64 h.rows, .int .i64 h.columns, .slice h.massesA h.massesN h.massesC] 26) = d2 := ⟨_, rfl⟩
      have hbd2 : Below d1.heap.size d1 d2 := by rw [← hd2]; exact (Below.refl _ _).alloc (Nat.le_refl _) _
      have HH2 : Hid (Own d2 X24 26 #[.int .i64 h.rows, .int .i64 h.columns, .slice h.massesA h.massesN h.massesC]) := by rw [Hid, ← hd2, ← hX24]; exact Own.new _ _ _
      have HWd2 := Lib.hid hd2
      have HEX24 := Lib.hid hX24
      have HHI := Lib.hid (hhi.below hbd2)
      have HBD2 := Lib.hid (HBB.out.trans ((hbd1.trans (hbd2.mono hbd1.size)).mono HBB.out.size))
      clear hhi hbd1 hbd2 hd2 hX24 HBB
      go_wp2_with fail
      rw [HWd2.out, HEX24.out]
      clear HWd2 HEX24
      refine (implSettled_any h part limit d2 HHI.out).mono ?_
      rintro e d3 ⟨kk, code6, rfl, hbd3, hno6, hyes6⟩
      have HBD3 := Lib.hid (HBD2.out.trans (hbd3.mono HBD2.out.size))
      have HHI3 := Lib.hid (HHI.out.below hbd3)
      have HH3 := Lib.hid (HH2.out.below' hbd3)
      have HYES6 := Lib.hid hyes6
      clear hbd3 hyes6 HHI HH2 HBD2
      by_cases hz6 : code6 = 0
      rotate_left
      · have hne6 : (code6 == 0) = false := by simp [hz6]
        obtain rfl := hno6 hz6
        clear hz6 hno6 HYES6
        go_wp2
        go_ret
        exact Ret.b rfl HBD3.out
      subst hz6
      obtain ⟨j, rfl, hj100, hfb, hp0, hp1, hl0, hl1, R, C, mj, hfr, hfc, hrun, hmsb, hall⟩ := HYES6.out rfl
      have HFB := Lib.hid hfb
      have HFR : Hid (h.rows = (R : Int)) := hfr
      have HFC : Hid (h.columns = (C : Int)) := hfc
      obtain ⟨R', C', hR, hC, hR1, hR8, hC1, hC8, hl, h64, hmB⟩ := fieldB_nat hfb
      obtain rfl : R' = R := by have q1 : h.rows = (R' : Int) := hR; have := HFR.out; omega
      obtain rfl : C' = C := by have q1 : h.columns = (C' : Int) := hC; have := HFC.out; omega
      have HRUN : Hid (runP R' C' part (fun _ => 0) h.masses j = some mj) := hrun
      have HMSB := Lib.hid hmsb
      have HALL := Lib.hid hall
      have HMB : Hid (massB h.masses = true) := hmB
      have HLM : Hid (h.masses.length = h.massesN) := HHI3.out.1.len
      have HNM : Hid (h.massesN = R' * C') := HLM.out.symm.trans hl
      have hn64 : h.massesN ≤ 64 := by have := HNM.out; omega
      have HOKK : Hid (∀ (i : Nat) (mi : List Int), runP R' C' part (fun _ => 0) h.masses i = some mi → mi.length = h.massesN ∧ massB mi = true ∧ fieldB ⟨h.rows, h.columns, mi⟩ = true) := fun i mi hr => by
        obtain ⟨q1, q2⟩ := runP_ok HMB.out i hr
        have q3 : mi.length = h.massesN := q1.trans HLM.out
        refine ⟨q3, q2, ?_⟩
        rw [HFR.out, HFC.out]
        exact fieldB_of hR1 hR8 hC1 hC8 (by rw [q3]; exact HNM.out) q2
      clear hno6 HYES6 hfb hfr hfc hR hC hl h64 hmB hrun hmsb hall
      have y0 := HH3.out.cell 0
      have y1 := HH3.out.cell 1
      have y2 := HH3.out.cell 2
      have ly := HH3.out.lt
      simp at y0 y1 y2
      obtain ⟨X29, hX29⟩ : ∃ X29, d3.heap.size = X29 := ⟨_, rfl⟩
      obtain ⟨d4, hd4⟩ : ∃ d4, d3.alloc (.cells #[.int .i64 h.rows, .int .i64 h.columns, .slice h.massesA h.massesN h.massesC] 26) = d4 := ⟨_, rfl⟩
      have hbd4 : Below d3.heap.size d3 d4 := by rw [← hd4]; exact (Below.refl _ _).alloc (Nat.le_refl _) _
      have HN4 : Hid (Own d4 X29 26 #[.int .i64 h.rows, .int .i64 h.columns, .slice h.massesA h.massesN h.massesC]) := by rw [Hid, ← hd4, ← hX29]; exact Own.new _ _ _
      have HWd4 := Lib.hid hd4
      have HEX29 := Lib.hid hX29
      have HHI4 := Lib.hid (HHI3.out.below hbd4)
      have HBD4 := Lib.hid (HBD3.out.trans (hbd4.mono HBD3.out.size))
      have HX29 : Hid (w.heap.size ≤ X29) := by rw [Hid, ← hX29]; exact HBD3.out.size
      clear hbd4 hd4 hX29 HHI3 HH3 HBD3
      go_upto_region 28 with fail
      rw [HWd4.out, HEX29.out]
      clear HWd4 HEX29 y0 y1 y2 ly
      go_wp2
      go_loopg [30] j (fun gk s30 wr => ∃ (i : Nat) (mi : List Int) (SA : Option Addr) (sc : Nat), i ≤ j ∧ gk = j - i ∧ s30 = .int .i64 i ∧ runP R' C' part (fun _ => 0) h.masses i = some mi ∧ Own wr X29 26 #[.int .i64 h.rows, .int .i64 h.columns, .slice SA h.massesN sc] ∧ (⟨h.rows, h.columns, SA, h.massesN, sc, mi⟩ : FieldR).In wr ∧ Below w.heap.size w wr)
      case atStart => exact ⟨0, h.masses, h.massesA, h.massesC, Nat.zero_le _, rfl, rfl, rfl, HN4.out, HHI4.out, HBD4.out⟩
      case round =>
        obtain ⟨i, mi, SA, sc, hi, hgi, rfl, hri, hoi, hii, hb⟩ := hrel
        have HGII := Lib.hid hgi
        have HRI := Lib.hid hri
        have HOI := Lib.hid hoi
        have HII := Lib.hid hii
        have HBR := Lib.hid hb
        obtain ⟨hmil, hmim, hmif⟩ := HOKK.out i mi hri
        have HMIL := Lib.hid hmil
        have HMIM := Lib.hid hmim
        have HMIF := Lib.hid hmif
        clear hgi hri hoi hii hb hmil hmim hmif HN4 HHI4 HBD4
        have y0 := HOI.out.cell 0
        have y1 := HOI.out.cell 1
        have y2 := HOI.out.cell 2
        have ly := HOI.out.lt
        simp at y0 y1 y2
        by_cases hlt : i < j
        · obtain ⟨mn, hmn⟩ := runP_prefix j HRUN.out (i + 1) (by omega)
          obtain ⟨m0, hm0, hmn2, hmnB⟩ := runP_back hmn
          rw [HRI.out] at hm0
          injection hm0 with hm0
          subst hm0
          have HMN : Hid (runP R' C' part (fun _ => 0) h.masses (i + 1) = some (stepF R' C' 0 part mi)) := by rw [Hid, hmn, hmn2]
          have HMNB : Hid (massB (stepF R' C' 0 part mi) = true) := hmnB
          have hi101 : i < 101 := by omega
          clear hmn hmn2 hmnB
          go_wp2_with fail
          refine (driftStep_ok (⟨h.rows, h.columns, SA, h.massesN, sc, mi⟩ : FieldR) R' C' 0 part wr HII.out HMIF.out HFR.out HFC.out (by omega) (by omega) hp0 hp1 HMNB.out).mono ?_
          rintro e b1 ⟨⟨pr, pc, pA, pN, pC, pm⟩, rfl, hpv, hpN, hpo, hbb1⟩
          injection hpv with hq1 hq2 hq3
          try simp only at hq1 hq2 hq3 hpN hpo
          subst hq1 hq2 hq3 hpN
          obtain ⟨X31, hX31⟩ : ∃ X31, b1.heap.size = X31 := ⟨_, rfl⟩
          obtain ⟨b2, hb2⟩ : ∃ b2, b1.alloc (.cells #[.int .i64 h.rows, .int .i64 h.columns, .slice pA h.massesN pC] 26) = b2 := ⟨_, rfl⟩
          have hbb2 : Below b1.heap.size b1 b2 := by rw [← hb2]; exact (Below.refl _ _).alloc (Nat.le_refl _) _
          have HX31 : Hid (Own b2 X31 26 #[.int .i64 h.rows, .int .i64 h.columns, .slice pA h.massesN pC]) := by rw [Hid, ← hb2, ← hX31]; exact Own.new _ _ _
          have HWb2 := Lib.hid hb2
          have HEX31 := Lib.hid hX31
          have HXL := Lib.hid HOI.out.lt
          have HPO := Lib.hid (hpo.below' hbb2)
          have HX2 := Lib.hid ((HOI.out.below' hbb1).below' hbb2)
          have HB2b := Lib.hid (HBR.out.trans ((hbb1.trans (hbb2.mono hbb1.size)).mono HBR.out.size))
          clear hpo hbb1 hbb2 hb2 hX31 y0 y1 y2 ly
          go_upto_region 32 with fail
          rw [HWb2.out, HEX31.out]
          clear HWb2 HEX31
          have y0 := HX2.out.cell 0
          have y1 := HX2.out.cell 1
          have y2 := HX2.out.cell 2
          have dy := HX2.out.frozen
          have ly := HX2.out.lt
          have z0 := HX31.out.cell 0
          have z1 := HX31.out.cell 1
          have z2 := HX31.out.cell 2
          have lz := HX31.out.lt
          simp at y0 y1 y2 z0 z1 z2
          have h3 := put3 HX2.out (.int .i64 h.rows) (.int .i64 h.columns) (.slice pA h.massesN pC) HB2b.out HX29.out
          have h4 : OwnsL (((b2.setCell ⟨X29, 0, none⟩ (.int .i64 h.rows)).setCell ⟨X29, 1, none⟩ (.int .i64 h.columns)).setCell ⟨X29, 2, none⟩ (.slice pA h.massesN pC)) wr.heap.size 2 1 i64cells (.slice pA h.massesN pC) (stepF R' C' 0 part mi) := HPO.out.kept (fun b hb => put3_heap b2 X29 _ _ _ b (by have q1 := (HPO.out.lt b hb).1; have q2 := HXL.out; omega))
          have H3 := Lib.hid h3
          have H4 := Lib.hid (FieldR.in_of (p := ⟨h.rows, h.columns, pA, h.massesN, pC, stepF R' C' 0 part mi⟩) h4)
          clear h3 h4
          go_wp2
          go_roundg (j - (i + 1))
          case measure => have := HGII.out; omega
          case rel => exact ⟨i + 1, _, pA, pC, by omega, rfl, by go_num, HMN.out, H3.out.1, H4.out, H3.out.2⟩
        obtain rfl : i = j := by omega
        obtain rfl : mi = mj := by have q1 := HRI.out; rw [HRUN.out] at q1; injection q1 with q1; exact q1.symm
        go_wp2_with fail
        refine (driftStep_ok (⟨h.rows, h.columns, SA, h.massesN, sc, mi⟩ : FieldR) R' C' 0 part wr HII.out HMIF.out HFR.out HFC.out (by omega) (by omega) hp0 hp1 HMSB.out).mono ?_
        rintro e b1 ⟨⟨pr, pc, pA, pN, pC, pm⟩, rfl, hpv, hpN, hpo, hbb1⟩
        injection hpv with hq1 hq2 hq3
        try simp only at hq1 hq2 hq3 hpN hpo
        subst hq1 hq2 hq3 hpN
        clear y0 y1 y2 ly
        obtain ⟨X33, hX33⟩ : ∃ X33, b1.heap.size = X33 := ⟨_, rfl⟩
        obtain ⟨b2, hb2⟩ : ∃ b2, b1.alloc (.cells #[.int .i64 h.rows, .int .i64 h.columns, .slice pA h.massesN pC] 26) = b2 := ⟨_, rfl⟩
        have hbb2 : Below b1.heap.size b1 b2 := by rw [← hb2]; exact (Below.refl _ _).alloc (Nat.le_refl _) _
        have HX33 : Hid (Own b2 X33 26 #[.int .i64 h.rows, .int .i64 h.columns, .slice pA h.massesN pC]) := by rw [Hid, ← hb2, ← hX33]; exact Own.new _ _ _
        have HWb2 := Lib.hid hb2
        have HEX33 := Lib.hid hX33
        have HPS : Hid (SliceOf b2 1 i64cells pA h.massesN (stepF R' C' 0 part mi)) := (hpo.below' hbb2).sl i64cells_len
        have HX2 := Lib.hid ((HOI.out.below' hbb1).below' hbb2)
        have HIS : Hid (SliceOf b2 1 i64cells SA h.massesN mi) := (HII.out.1.below hbb1).below hbb2
        have HB2b := Lib.hid (HBR.out.trans ((hbb1.trans (hbb2.mono hbb1.size)).mono HBR.out.size))
        obtain ⟨sf, hsf⟩ : ∃ sf, stepF R' C' 0 part mi = sf := ⟨_, rfl⟩
        rw [hsf] at HPS HMSB HALL
        clear hpo hbb1 hbb2 hb2 hX33 hsf HOI HII HBR
        go_upto_region 36 with fail
        rw [HWb2.out, HEX33.out]
        clear HWb2 HEX33
        have hj1 : decide (100 < i) = false := decide_eq_false (by omega)
        go_wp2
        go_loopg [35] h.massesN (fun gk s35 wr => ∃ q : Nat, q ≤ h.massesN ∧ gk = h.massesN - q ∧ s35 = .int .i64 q ∧ Below b2.heap.size b2 wr)
        case atStart => exact ⟨0, Nat.zero_le _, rfl, rfl, Below.refl _ _⟩
        case round =>
          obtain ⟨q, hq, hgq, rfl, hb⟩ := hrel
          have HGQ := Lib.hid hgq
          have HBQ := Lib.hid hb
          clear hgq hb
          have z2 := (HX33.out.below' HBQ.out).cell 2
          have lz := (HX33.out.below' HBQ.out).lt
          simp at z2
          by_cases hltq : q < h.massesN
          · have y2 := (HX2.out.below' HBQ.out).cell 2
            have ly := (HX2.out.below' HBQ.out).lt
            simp at y2
            obtain ⟨b5, o5, x, rfl, hb5, hx5, v5⟩ := ints_at (HPS.out.below HBQ.out) hltq
            obtain ⟨b6, o6, y, rfl, hb6, hy6, v6⟩ := ints_at (HIS.out.below HBQ.out) hltq
            have hxb := massB_at HMSB.out hx5
            have hyb := massB_at HMIM.out hy6
            have hle := HALL.out (x - y) (List.mem_of_getElem? (gainF_at hx5 hy6))
            have hld : decide (limit < max (x - y) (-(x - y))) = false := decide_eq_false (by omega)
            have hsub := fun (q : Sub wr) b o (h : b < wr.heap.size) => q.cell b o h
            clear hx5 hy6 hle
            go_wp2_with fail
            refine wp_region_sub (by kernel_rfl) (by kernel_rfl) ?_
            repeat (go_big_quiet_step (exact Calls.sub_of_same (b10AbsF_any (x - y) _ (by omega))))
            refine wpQuiet_nil ?_
            intro wg hg
            have HBG := Lib.hid (HBQ.out.trans (hg.mono HBQ.out.size))
            clear hsub y2 ly z2 lz v5 v6 hb5 hb6 hg hld
            go_wp2
            go_roundg (h.massesN - (q + 1))
            case measure => have := HGQ.out; omega
            case rel => exact ⟨q + 1, by omega, rfl, by go_num, HBG.out⟩
          obtain rfl : q = h.massesN := by omega
          have HBF : Hid (Below w.heap.size w wr) := HB2b.out.trans (HBQ.out.mono HB2b.out.size)
          go_wp2
          go_ret
          exact Ret.b rfl HBF.out
  subst hz
  obtain ⟨hfb, hm0, hm1, hpv, hpb⟩ := HYES.out rfl
  injection hpv with hp1 hp2 hp3
  try simp only at hp1 hp2 hp3
  have HPV : Hid ((⟨pr, pc, pA, pN, pC, pm⟩ : FieldR).val = ⟨pr, pc, pm⟩) := rfl
  have HFB := Lib.hid hfb
  have HPB : Hid (fieldB ⟨pr, pc, pm⟩ = true) := hpb
  have hpn : pN = f.massesN := by
    have h1 : pm.length = pN := HP4.out.1.len
    have h2 : f.masses.length = f.massesN := HF4.out.1.len
    rw [hp3, addF_len] at h1
    omega
  obtain ⟨_, _, _, _, _, _, _, _, hl, h64, hmB⟩ := fieldB_nat hfb
  have hfl : f.masses.length = f.massesN := HF4.out.1.len
  have hn64 : f.massesN ≤ 64 := by have h1 : f.val.masses.length = f.masses.length := rfl; omega
  have hsum : sumF pm pN = sumF f.masses f.massesN + mass * (f.massesN : Int) := by rw [hp3, hpn]; exact sumF_add _ (by omega)
  have hsb := sumF_bound (show massB f.masses = true from hmB) f.massesN
  obtain ⟨SA, hSA⟩ : ∃ S, sumF f.masses f.massesN = S := ⟨_, rfl⟩
  obtain ⟨SB, hSB⟩ : ∃ S, sumF pm pN = S := ⟨_, rfl⟩
  obtain ⟨Q, hQ⟩ : ∃ Q, mass * (f.massesN : Int) = Q := ⟨_, rfl⟩
  have hQb : 0 ≤ Q ∧ Q ≤ 64000000 := by
    have h1 : 0 ≤ mass * (f.massesN : Int) := Int.mul_nonneg hm0 (by omega)
    have h2 : mass * (f.massesN : Int) ≤ 1000000 * 64 := Int.mul_le_mul hm1 (by omega) (by omega) (by omega)
    omega
  have hQw : IntKind.i64.wrap (mass * (f.massesN : Int)) = Q := by rw [hQ]; exact IntWalk.i64_in _ (by omega)
  rw [hSA, hSB, hQ] at hsum
  rw [hSA] at hsb
  have HSA := Lib.hid hSA
  have HSB := Lib.hid hSB
  have HSUM : Hid (SB = SA + Q ∧ 0 ≤ SA ∧ SA ≤ 64000000) := ⟨hsum, hsb.1, by omega⟩
  have HLB4 := Lib.hid (HLB.out.grow HB4.out)
  have HQ := Lib.hid hQw
  have HQB := Lib.hid hQb
  clear hfb hpb hl h64 hmB hp1 hp2 hp3 hpn hsum hsb hSA hSB hQ hQw hQb HYES hfl hn64
  have y0 := HO24.out.cell 0
  have y1 := HO24.out.cell 1
  have y2 := HO24.out.cell 2
  simp at y0 y1 y2
  go_wp2_with fail
  refine (fieldMass_ok f w4 HF4.out HFB.out).mono ?_
  rintro e w5 ⟨rfl, hb5⟩
  rw [HSA.out]
  have HP5 := Lib.hid (HP4.out.below hb5)
  have HF5 := Lib.hid (HF4.out.below hb5)
  have HO45 := Lib.hid (HO4.out.below' hb5)
  have HO25 := Lib.hid (HO24.out.below' hb5)
  have HB5 := Lib.hid (HB4.out.trans (hb5.mono HB4.out.size))
  have HLB5 := Lib.hid (HLB4.out.grow hb5)
  clear hb5 y0 y1 y2
  have y0 := HO45.out.cell 0
  have y1 := HO45.out.cell 1
  have y2 := HO45.out.cell 2
  simp at y0 y1 y2
  go_wp2_with fail
  refine (fieldMass_ok (⟨pr, pc, pA, pN, pC, pm⟩ : FieldR) w5 HP5.out HPB.out).mono ?_
  rintro e w6 ⟨rfl, hb6⟩
  simp only
  rw [HSB.out]
  have HP6 := Lib.hid (HP5.out.below hb6)
  have HO46 := Lib.hid (HO45.out.below' hb6)
  have HO26 := Lib.hid (HO25.out.below' hb6)
  have HB6 := Lib.hid (HB5.out.trans (hb6.mono HB5.out.size))
  have HLB6 := Lib.hid (HLB5.out.grow hb6)
  clear hb6 y0 y1 y2
  have y0 := HO46.out.cell 0
  have y1 := HO46.out.cell 1
  have y2 := HO46.out.cell 2
  simp at y0 y1 y2
  go_wp2_with fail
  refine (implFieldText_ok (⟨pr, pc, pA, pN, pC, pm⟩ : FieldR) w6 HP6.out HPB.out HLB6.out.tab).mono ?_
  rintro e w7 ⟨rfl, hb7⟩
  have HP7 := Lib.hid (HP6.out.below hb7)
  have HO47 := Lib.hid (HO46.out.below' hb7)
  have HO27 := Lib.hid (HO26.out.below' hb7)
  have HB7 := Lib.hid (HB6.out.trans (hb7.mono HB6.out.size))
  have HLB7 := Lib.hid (HLB6.out.grow hb7)
  clear hb7 y0 y1 y2
  rw [HPV.out]
  obtain ⟨TX, hTX⟩ : ∃ T, fieldText ⟨pr, pc, pm⟩ = T := ⟨_, rfl⟩
  have HRD := Lib.hid (implReadField_ok ⟨pr, pc, pm⟩ w7 HPB.out HLB7.out)
  rw [hTX] at HRD ⊢
  clear hTX
  go_wp2_with fail
  refine HRD.out.mono ?_
  rintro e w8 ⟨⟨qr, qc, qA, qN, qC, qm⟩, rfl, hqv, hqi, hb8⟩
  injection hqv with hq1 hq2 hq3
  try simp only at hq1 hq2 hq3 hqi
  subst hq1 hq2 hq3
  have HP8 := Lib.hid (HP7.out.below hb8)
  have HO48 := Lib.hid (HO47.out.below' hb8)
  have HO28 := Lib.hid (HO27.out.below' hb8)
  have HB8 := Lib.hid (HB7.out.trans (hb8.mono HB7.out.size))
  obtain rfl : qN = pN := by have h1 : qm.length = qN := hqi.1.len; have h2 : qm.length = pN := HP8.out.1.len; omega
  clear hb8 HRD
  obtain ⟨X9, hX9⟩ : ∃ X9, w8.heap.size = X9 := ⟨_, rfl⟩
  obtain ⟨w9, hw9⟩ : ∃ w9, w8.alloc (.cells #[.int .i64 qr, .int .i64 qc, .slice qA qN qC] 26) = w9 := ⟨_, rfl⟩
  have hbw9 : Below w8.heap.size w8 w9 := by rw [← hw9]; exact (Below.refl _ _).alloc (Nat.le_refl _) _
  have HO9 : Hid (Own w9 X9 26 #[.int .i64 qr, .int .i64 qc, .slice qA qN qC]) := by rw [Hid, ← hw9, ← hX9]; exact Own.new _ _ _
  have HWw9 := Lib.hid hw9
  have HEX9 := Lib.hid hX9
  have HQ9 := Lib.hid (hqi.below hbw9)
  have HP9 := Lib.hid (HP8.out.below hbw9)
  have HO49 := Lib.hid (HO48.out.below' hbw9)
  have HO29 := Lib.hid (HO28.out.below' hbw9)
  have HB9 := Lib.hid (HB8.out.trans (hbw9.mono HB8.out.size))
  clear hqi hbw9 hw9 hX9
  go_upto_region 9 with fail
  rw [HWw9.out, HEX9.out]
  clear HWw9 HEX9
  have y0 := HO49.out.cell 0
  have y1 := HO49.out.cell 1
  have y2 := HO49.out.cell 2
  have z0 := HO9.out.cell 0
  have z1 := HO9.out.cell 1
  have z2 := HO9.out.cell 2
  have v2 := HO29.out.cell 2
  simp at y0 y1 y2 z0 z1 z2 v2
  have hQw := HQ.out
  have hsm := HSUM.out
  have hQb := HQB.out
  have hne : (SB != SA + Q) = false := by simp [hsm.1]
  go_wp2_with fail
  refine (sameField_ok qr qc qA pA qN qC pC qm w9 HQ9.out.1 HP9.out.1).mono ?_
  rintro e w10 ⟨rfl, hb10⟩
  have HBZ := Lib.hid (HB9.out.trans (hb10.mono HB9.out.size))
  clear hb10 y0 y1 y2 z0 z1 z2 v2 hQw hsm hQb hne HQ9 HP9 HO49 HO29 HO9 HB9 HO2 HF2 HB2 HP4 HO24 HO4 HB4 HP5 HF5 HO45 HO25 HB5 HLB5 HP6 HO46 HO26 HB6 HLB6 HP7 HO47 HO27 HB7 HLB7 HP8 HO48 HO28 HB8
  go_wp2_with fail
  refine (drawLoaded_any A1 n1 c1 x1 w10 (S1.out.below HBZ.out) G1.out).mono ?_
  rintro e a1 ⟨g, GA, gn, gc, gl, share, least, rfl, hgi, hgs, hba1⟩
  obtain ⟨X15, hX15⟩ : ∃ X15, a1.heap.size = X15 := ⟨_, rfl⟩
  obtain ⟨a2, ha2⟩ : ∃ a2, a1.alloc (.cells #[.int .i64 g.rows, .int .i64 g.columns, .slice g.massesA g.massesN g.massesC] 26) = a2 := ⟨_, rfl⟩
  have hba2 : Below a1.heap.size a1 a2 := by rw [← ha2]; exact (Below.refl _ _).alloc (Nat.le_refl _) _
  have HG2 : Hid (Own a2 X15 26 #[.int .i64 g.rows, .int .i64 g.columns, .slice g.massesA g.massesN g.massesC]) := by rw [Hid, ← ha2, ← hX15]; exact Own.new _ _ _
  have HWa2 := Lib.hid ha2
  have HEX15 := Lib.hid hX15
  have HGI := Lib.hid (hgi.below hba2)
  have HGS := Lib.hid (hgs.below hba2)
  have HBA2 := Lib.hid (HBZ.out.trans ((hba1.trans (hba2.mono hba1.size)).mono HBZ.out.size))
  clear hgi hgs hba1 hba2 ha2 hX15 HBZ
  go_wp2_with fail
  rw [HWa2.out, HEX15.out]
  clear HWa2 HEX15
  refine (implLoadedCells_any g GA gn gc gl share least a2 HGI.out HGS.out).mono ?_
  rintro e a3 ⟨cv, code4, rfl, hba3, hno4, hyes4⟩
  have HBA3 := Lib.hid (HBA2.out.trans (hba3.mono HBA2.out.size))
  have HGI3 := Lib.hid (HGI.out.below hba3)
  have HGS3 := Lib.hid (HGS.out.below hba3)
  have HG23 := Lib.hid (HG2.out.below' hba3)
  have HYES4 := Lib.hid hyes4
  clear hba3 hyes4 HGI HGS HG2 HBA2
  by_cases hz4 : code4 = 0
  rotate_left
  · have hne4 : (code4 == 0) = false := by simp [hz4]
    obtain rfl := hno4 hz4
    clear hz4 hno4 HYES4
    go_wp2
    go_ret
    exact Ret.b rfl HBA3.out
  subst hz4
  obtain ⟨m, hran, hml, hown⟩ := HYES4.out rfl
  obtain ⟨CA, cc, rfl, _, _, hcs⟩ := hown.slice i64cells_len
  have HRAN := Lib.hid hran
  have HML := Lib.hid hml
  have hgfl : g.masses.length = g.massesN := HGI3.out.1.len
  have hgnl : (gainF g.masses m).length = g.massesN := by rw [gainF_len (by rw [hml, hgfl]), hgfl]
  have HGNL := Lib.hid hgnl
  obtain ⟨cn, hcn⟩ : ∃ cn, (cellsTo (gainF g.masses m) least g.massesN).length = cn := ⟨_, rfl⟩
  rw [hcn] at hcs ⊢
  have HCS := Lib.hid hcs
  have hgn64 : g.massesN ≤ 64 := by
    obtain ⟨_, _, _, _, _, _, _, _, hl, h64, _⟩ := fieldB_nat hran.1
    have h1 : g.val.masses.length = g.masses.length := rfl
    omega
  have HCM : Hid (∀ x ∈ cellsTo (gainF g.masses m) least g.massesN, 0 ≤ x ∧ x < (g.massesN : Int)) := fun x hx => by
    obtain ⟨i, hi, rfl, _⟩ := cellsTo_mem.1 hx
    omega
  clear hno4 hran hml hown hcs hcn hgnl HYES4
  have y0 := HG23.out.cell 0
  have y1 := HG23.out.cell 1
  have y2 := HG23.out.cell 2
  simp at y0 y1 y2
  go_wp2_with fail
  clear y0 y1 y2
  refine (specDriftGain_ok g GA gn gc gl share m a3 HGI3.out HGS3.out HRAN.out).mono ?_
  rintro e a4 ⟨_, rfl, ⟨u, rfl, hou⟩, hba4⟩
  obtain ⟨UA, uc, rfl, _, _, hus⟩ := hou.slice i64cells_len
  rw [HGNL.out] at hus ⊢
  have HUS := Lib.hid hus
  have HBA4 := Lib.hid (HBA3.out.trans (hba4.mono HBA3.out.size))
  have HCS4 := Lib.hid (HCS.out.below hba4)
  obtain ⟨gs, hgs⟩ : ∃ gs, gainF g.masses m = gs := ⟨_, rfl⟩
  rw [hgs] at HUS HCS4 HCM HGNL
  obtain ⟨N, hN⟩ : ∃ N, g.massesN = N := ⟨_, rfl⟩
  rw [hN] at HUS HCS4 HCM HGNL hgn64 ⊢
  clear hou hus hba4 hgs hN HGI3 HGS3 HG23 HCS HBA3 HRAN HML hgfl
  go_wp2_with fail
  refine (b10Rises_ok CA cn cc N (cellsTo gs least N) a4 HCS4.out HCM.out (cellsTo_rise N)).mono ?_
  rintro e a5 ⟨rfl, hba5⟩
  have HBA5 := Lib.hid (HBA4.out.trans (hba5.mono HBA4.out.size))
  have HCS5 := Lib.hid (HCS4.out.below hba5)
  have HUS5 := Lib.hid (HUS.out.below hba5)
  clear hba5 HCS4 HUS HBA4 HCM
  go_wp2
  go_loopg [23] N (fun gk s23 wr => ∃ i : Nat, i ≤ N ∧ gk = N - i ∧ s23 = .int .i64 i ∧ Below a5.heap.size a5 wr)
  case atStart => exact ⟨0, Nat.zero_le _, rfl, rfl, Below.refl _ _⟩
  case round =>
    obtain ⟨i, hi, hgi, rfl, hb⟩ := hrel
    have HGII := Lib.hid hgi
    have HBR := Lib.hid hb
    clear hgi hb
    by_cases hlt : i < N
    · obtain ⟨bu, ou, x, rfl, hbu, hxu, xu⟩ := ints_at (HUS5.out.below HBR.out) hlt
      have HCR := Lib.hid (HCS5.out.below HBR.out)
      have hhas := hasB_cells (gs := gs) (least := least) hlt hxu
      have hsub := fun (q : Sub wr) b o (h : b < wr.heap.size) => q.cell b o h
      clear hxu
      cases hd : decide (least ≤ x)
      · rw [hd] at hhas
        go_wp2_with fail
        refine wp_region_sub (by kernel_rfl) (by kernel_rfl) ?_
        repeat (go_big_quiet_step (exact Calls.sub_of_same_eq (b10Has_any (i : Int) CA cn cc (cellsTo gs least N) _ (HCR.out.below (Sub.below _))) (congrArg Value.bool hhas)))
        refine wpQuiet_nil ?_
        intro wg hg
        have HBG := Lib.hid (HBR.out.trans (hg.mono HBR.out.size))
        clear hsub xu hbu hg hhas hd
        go_wp2
        go_roundg (N - (i + 1))
        case measure => have := HGII.out; omega
        case rel => exact ⟨i + 1, by omega, rfl, by go_num, HBG.out⟩
      · rw [hd] at hhas
        go_wp2_with fail
        refine wp_region_sub (by kernel_rfl) (by kernel_rfl) ?_
        repeat (go_big_quiet_step (exact Calls.sub_of_same_eq (b10Has_any (i : Int) CA cn cc (cellsTo gs least N) _ (HCR.out.below (Sub.below _))) (congrArg Value.bool hhas)))
        refine wpQuiet_nil ?_
        intro wg hg
        have HBG := Lib.hid (HBR.out.trans (hg.mono HBR.out.size))
        clear hsub xu hbu hg hhas hd
        go_wp2
        go_roundg (N - (i + 1))
        case measure => have := HGII.out; omega
        case rel => exact ⟨i + 1, by omega, rfl, by go_num, HBG.out⟩
    obtain rfl : i = N := by omega
    have HBB : Hid (Below w.heap.size w wr) := HBA5.out.trans (HBR.out.mono HBA5.out.size)
    clear HCS5 HUS5 HBA5 HBR
    go_wp2_with fail
    refine (drawSettled_any A0 n0 c0 x0 wr (S0.out.below HBB.out) G0.out).mono ?_
    rintro e d1 ⟨h, part, limit, rfl, hhi, hbd1⟩
    obtain ⟨X24, hX24⟩ : ∃ X24, d1.heap.size = X24 := ⟨_, rfl⟩
    obtain ⟨d2, hd2⟩ : ∃ d2, d1.alloc (.cells #[.int .i64 h.rows, .int .i64 h.columns, .slice h.massesA h.massesN h.massesC] 26) = d2 := ⟨_, rfl⟩
    have hbd2 : Below d1.heap.size d1 d2 := by rw [← hd2]; exact (Below.refl _ _).alloc (Nat.le_refl _) _
    have HH2 : Hid (Own d2 X24 26 #[.int .i64 h.rows, .int .i64 h.columns, .slice h.massesA h.massesN h.massesC]) := by rw [Hid, ← hd2, ← hX24]; exact Own.new _ _ _
    have HWd2 := Lib.hid hd2
    have HEX24 := Lib.hid hX24
    have HHI := Lib.hid (hhi.below hbd2)
    have HBD2 := Lib.hid (HBB.out.trans ((hbd1.trans (hbd2.mono hbd1.size)).mono HBB.out.size))
    clear hhi hbd1 hbd2 hd2 hX24 HBB
    go_wp2_with fail
    rw [HWd2.out, HEX24.out]
    clear HWd2 HEX24
    refine (implSettled_any h part limit d2 HHI.out).mono ?_
    rintro e d3 ⟨kk, code6, rfl, hbd3, hno6, hyes6⟩
    have HBD3 := Lib.hid (HBD2.out.trans (hbd3.mono HBD2.out.size))
    have HHI3 := Lib.hid (HHI.out.below hbd3)
    have HH3 := Lib.hid (HH2.out.below' hbd3)
    have HYES6 := Lib.hid hyes6
    clear hbd3 hyes6 HHI HH2 HBD2
    by_cases hz6 : code6 = 0
    rotate_left
    · have hne6 : (code6 == 0) = false := by simp [hz6]
      obtain rfl := hno6 hz6
      clear hz6 hno6 HYES6
      go_wp2
      go_ret
      exact Ret.b rfl HBD3.out
    subst hz6
    obtain ⟨j, rfl, hj100, hfb, hp0, hp1, hl0, hl1, R, C, mj, hfr, hfc, hrun, hmsb, hall⟩ := HYES6.out rfl
    have HFB := Lib.hid hfb
    have HFR : Hid (h.rows = (R : Int)) := hfr
    have HFC : Hid (h.columns = (C : Int)) := hfc
    obtain ⟨R', C', hR, hC, hR1, hR8, hC1, hC8, hl, h64, hmB⟩ := fieldB_nat hfb
    obtain rfl : R' = R := by have q1 : h.rows = (R' : Int) := hR; have := HFR.out; omega
    obtain rfl : C' = C := by have q1 : h.columns = (C' : Int) := hC; have := HFC.out; omega
    have HRUN : Hid (runP R' C' part (fun _ => 0) h.masses j = some mj) := hrun
    have HMSB := Lib.hid hmsb
    have HALL := Lib.hid hall
    have HMB : Hid (massB h.masses = true) := hmB
    have HLM : Hid (h.masses.length = h.massesN) := HHI3.out.1.len
    have HNM : Hid (h.massesN = R' * C') := HLM.out.symm.trans hl
    have hn64 : h.massesN ≤ 64 := by have := HNM.out; omega
    have HOKK : Hid (∀ (i : Nat) (mi : List Int), runP R' C' part (fun _ => 0) h.masses i = some mi → mi.length = h.massesN ∧ massB mi = true ∧ fieldB ⟨h.rows, h.columns, mi⟩ = true) := fun i mi hr => by
      obtain ⟨q1, q2⟩ := runP_ok HMB.out i hr
      have q3 : mi.length = h.massesN := q1.trans HLM.out
      refine ⟨q3, q2, ?_⟩
      rw [HFR.out, HFC.out]
      exact fieldB_of hR1 hR8 hC1 hC8 (by rw [q3]; exact HNM.out) q2
    clear hno6 HYES6 hfb hfr hfc hR hC hl h64 hmB hrun hmsb hall
    have y0 := HH3.out.cell 0
    have y1 := HH3.out.cell 1
    have y2 := HH3.out.cell 2
    have ly := HH3.out.lt
    simp at y0 y1 y2
    obtain ⟨X29, hX29⟩ : ∃ X29, d3.heap.size = X29 := ⟨_, rfl⟩
    obtain ⟨d4, hd4⟩ : ∃ d4, d3.alloc (.cells #[.int .i64 h.rows, .int .i64 h.columns, .slice h.massesA h.massesN h.massesC] 26) = d4 := ⟨_, rfl⟩
    have hbd4 : Below d3.heap.size d3 d4 := by rw [← hd4]; exact (Below.refl _ _).alloc (Nat.le_refl _) _
    have HN4 : Hid (Own d4 X29 26 #[.int .i64 h.rows, .int .i64 h.columns, .slice h.massesA h.massesN h.massesC]) := by rw [Hid, ← hd4, ← hX29]; exact Own.new _ _ _
    have HWd4 := Lib.hid hd4
    have HEX29 := Lib.hid hX29
    have HHI4 := Lib.hid (HHI3.out.below hbd4)
    have HBD4 := Lib.hid (HBD3.out.trans (hbd4.mono HBD3.out.size))
    have HX29 : Hid (w.heap.size ≤ X29) := by rw [Hid, ← hX29]; exact HBD3.out.size
    clear hbd4 hd4 hX29 HHI3 HH3 HBD3
    go_upto_region 28 with fail
    rw [HWd4.out, HEX29.out]
    clear HWd4 HEX29 y0 y1 y2 ly
    go_wp2
    go_loopg [30] j (fun gk s30 wr => ∃ (i : Nat) (mi : List Int) (SA : Option Addr) (sc : Nat), i ≤ j ∧ gk = j - i ∧ s30 = .int .i64 i ∧ runP R' C' part (fun _ => 0) h.masses i = some mi ∧ Own wr X29 26 #[.int .i64 h.rows, .int .i64 h.columns, .slice SA h.massesN sc] ∧ (⟨h.rows, h.columns, SA, h.massesN, sc, mi⟩ : FieldR).In wr ∧ Below w.heap.size w wr)
    case atStart => exact ⟨0, h.masses, h.massesA, h.massesC, Nat.zero_le _, rfl, rfl, rfl, HN4.out, HHI4.out, HBD4.out⟩
    case round =>
      obtain ⟨i, mi, SA, sc, hi, hgi, rfl, hri, hoi, hii, hb⟩ := hrel
      have HGII := Lib.hid hgi
      have HRI := Lib.hid hri
      have HOI := Lib.hid hoi
      have HII := Lib.hid hii
      have HBR := Lib.hid hb
      obtain ⟨hmil, hmim, hmif⟩ := HOKK.out i mi hri
      have HMIL := Lib.hid hmil
      have HMIM := Lib.hid hmim
      have HMIF := Lib.hid hmif
      clear hgi hri hoi hii hb hmil hmim hmif HN4 HHI4 HBD4
      have y0 := HOI.out.cell 0
      have y1 := HOI.out.cell 1
      have y2 := HOI.out.cell 2
      have ly := HOI.out.lt
      simp at y0 y1 y2
      by_cases hlt : i < j
      · obtain ⟨mn, hmn⟩ := runP_prefix j HRUN.out (i + 1) (by omega)
        obtain ⟨m0, hm0, hmn2, hmnB⟩ := runP_back hmn
        rw [HRI.out] at hm0
        injection hm0 with hm0
        subst hm0
        have HMN : Hid (runP R' C' part (fun _ => 0) h.masses (i + 1) = some (stepF R' C' 0 part mi)) := by rw [Hid, hmn, hmn2]
        have HMNB : Hid (massB (stepF R' C' 0 part mi) = true) := hmnB
        have hi101 : i < 101 := by omega
        clear hmn hmn2 hmnB
        go_wp2_with fail
        refine (driftStep_ok (⟨h.rows, h.columns, SA, h.massesN, sc, mi⟩ : FieldR) R' C' 0 part wr HII.out HMIF.out HFR.out HFC.out (by omega) (by omega) hp0 hp1 HMNB.out).mono ?_
        rintro e b1 ⟨⟨pr, pc, pA, pN, pC, pm⟩, rfl, hpv, hpN, hpo, hbb1⟩
        injection hpv with hq1 hq2 hq3
        try simp only at hq1 hq2 hq3 hpN hpo
        subst hq1 hq2 hq3 hpN
        obtain ⟨X31, hX31⟩ : ∃ X31, b1.heap.size = X31 := ⟨_, rfl⟩
        obtain ⟨b2, hb2⟩ : ∃ b2, b1.alloc (.cells #[.int .i64 h.rows, .int .i64 h.columns, .slice pA h.massesN pC] 26) = b2 := ⟨_, rfl⟩
        have hbb2 : Below b1.heap.size b1 b2 := by rw [← hb2]; exact (Below.refl _ _).alloc (Nat.le_refl _) _
        have HX31 : Hid (Own b2 X31 26 #[.int .i64 h.rows, .int .i64 h.columns, .slice pA h.massesN pC]) := by rw [Hid, ← hb2, ← hX31]; exact Own.new _ _ _
        have HWb2 := Lib.hid hb2
        have HEX31 := Lib.hid hX31
        have HXL := Lib.hid HOI.out.lt
        have HPO := Lib.hid (hpo.below' hbb2)
        have HX2 := Lib.hid ((HOI.out.below' hbb1).below' hbb2)
        have HB2b := Lib.hid (HBR.out.trans ((hbb1.trans (hbb2.mono hbb1.size)).mono HBR.out.size))
        clear hpo hbb1 hbb2 hb2 hX31 y0 y1 y2 ly
        go_upto_region 32 with fail
        rw [HWb2.out, HEX31.out]
        clear HWb2 HEX31
        have y0 := HX2.out.cell 0
        have y1 := HX2.out.cell 1
        have y2 := HX2.out.cell 2
        have dy := HX2.out.frozen
        have ly := HX2.out.lt
        have z0 := HX31.out.cell 0
        have z1 := HX31.out.cell 1
        have z2 := HX31.out.cell 2
        have lz := HX31.out.lt
        simp at y0 y1 y2 z0 z1 z2
        have h3 := put3 HX2.out (.int .i64 h.rows) (.int .i64 h.columns) (.slice pA h.massesN pC) HB2b.out HX29.out
        have h4 : OwnsL (((b2.setCell ⟨X29, 0, none⟩ (.int .i64 h.rows)).setCell ⟨X29, 1, none⟩ (.int .i64 h.columns)).setCell ⟨X29, 2, none⟩ (.slice pA h.massesN pC)) wr.heap.size 2 1 i64cells (.slice pA h.massesN pC) (stepF R' C' 0 part mi) := HPO.out.kept (fun b hb => put3_heap b2 X29 _ _ _ b (by have q1 := (HPO.out.lt b hb).1; have q2 := HXL.out; omega))
        have H3 := Lib.hid h3
        have H4 := Lib.hid (FieldR.in_of (p := ⟨h.rows, h.columns, pA, h.massesN, pC, stepF R' C' 0 part mi⟩) h4)
        clear h3 h4
        go_wp2
        go_roundg (j - (i + 1))
        case measure => have := HGII.out; omega
        case rel => exact ⟨i + 1, _, pA, pC, by omega, rfl, by go_num, HMN.out, H3.out.1, H4.out, H3.out.2⟩
      obtain rfl : i = j := by omega
      obtain rfl : mi = mj := by have q1 := HRI.out; rw [HRUN.out] at q1; injection q1 with q1; exact q1.symm
      go_wp2_with fail
      refine (driftStep_ok (⟨h.rows, h.columns, SA, h.massesN, sc, mi⟩ : FieldR) R' C' 0 part wr HII.out HMIF.out HFR.out HFC.out (by omega) (by omega) hp0 hp1 HMSB.out).mono ?_
      rintro e b1 ⟨⟨pr, pc, pA, pN, pC, pm⟩, rfl, hpv, hpN, hpo, hbb1⟩
      injection hpv with hq1 hq2 hq3
      try simp only at hq1 hq2 hq3 hpN hpo
      subst hq1 hq2 hq3 hpN
      clear y0 y1 y2 ly
      obtain ⟨X33, hX33⟩ : ∃ X33, b1.heap.size = X33 := ⟨_, rfl⟩
      obtain ⟨b2, hb2⟩ : ∃ b2, b1.alloc (.cells #[.int .i64 h.rows, .int .i64 h.columns, .slice pA h.massesN pC] 26) = b2 := ⟨_, rfl⟩
      have hbb2 : Below b1.heap.size b1 b2 := by rw [← hb2]; exact (Below.refl _ _).alloc (Nat.le_refl _) _
      have HX33 : Hid (Own b2 X33 26 #[.int .i64 h.rows, .int .i64 h.columns, .slice pA h.massesN pC]) := by rw [Hid, ← hb2, ← hX33]; exact Own.new _ _ _
      have HWb2 := Lib.hid hb2
      have HEX33 := Lib.hid hX33
      have HPS : Hid (SliceOf b2 1 i64cells pA h.massesN (stepF R' C' 0 part mi)) := (hpo.below' hbb2).sl i64cells_len
      have HX2 := Lib.hid ((HOI.out.below' hbb1).below' hbb2)
      have HIS : Hid (SliceOf b2 1 i64cells SA h.massesN mi) := (HII.out.1.below hbb1).below hbb2
      have HB2b := Lib.hid (HBR.out.trans ((hbb1.trans (hbb2.mono hbb1.size)).mono HBR.out.size))
      obtain ⟨sf, hsf⟩ : ∃ sf, stepF R' C' 0 part mi = sf := ⟨_, rfl⟩
      rw [hsf] at HPS HMSB HALL
      clear hpo hbb1 hbb2 hb2 hX33 hsf HOI HII HBR
      go_upto_region 36 with fail
      rw [HWb2.out, HEX33.out]
      clear HWb2 HEX33
      have hj1 : decide (100 < i) = false := decide_eq_false (by omega)
      go_wp2
      go_loopg [35] h.massesN (fun gk s35 wr => ∃ q : Nat, q ≤ h.massesN ∧ gk = h.massesN - q ∧ s35 = .int .i64 q ∧ Below b2.heap.size b2 wr)
      case atStart => exact ⟨0, Nat.zero_le _, rfl, rfl, Below.refl _ _⟩
      case round =>
        obtain ⟨q, hq, hgq, rfl, hb⟩ := hrel
        have HGQ := Lib.hid hgq
        have HBQ := Lib.hid hb
        clear hgq hb
        have z2 := (HX33.out.below' HBQ.out).cell 2
        have lz := (HX33.out.below' HBQ.out).lt
        simp at z2
        by_cases hltq : q < h.massesN
        · have y2 := (HX2.out.below' HBQ.out).cell 2
          have ly := (HX2.out.below' HBQ.out).lt
          simp at y2
          obtain ⟨b5, o5, x, rfl, hb5, hx5, v5⟩ := ints_at (HPS.out.below HBQ.out) hltq
          obtain ⟨b6, o6, y, rfl, hb6, hy6, v6⟩ := ints_at (HIS.out.below HBQ.out) hltq
          have hxb := massB_at HMSB.out hx5
          have hyb := massB_at HMIM.out hy6
          have hle := HALL.out (x - y) (List.mem_of_getElem? (gainF_at hx5 hy6))
          have hld : decide (limit < max (x - y) (-(x - y))) = false := decide_eq_false (by omega)
          have hsub := fun (q : Sub wr) b o (h : b < wr.heap.size) => q.cell b o h
          clear hx5 hy6 hle
          go_wp2_with fail
          refine wp_region_sub (by kernel_rfl) (by kernel_rfl) ?_
          repeat (go_big_quiet_step (exact Calls.sub_of_same (b10AbsF_any (x - y) _ (by omega))))
          refine wpQuiet_nil ?_
          intro wg hg
          have HBG := Lib.hid (HBQ.out.trans (hg.mono HBQ.out.size))
          clear hsub y2 ly z2 lz v5 v6 hb5 hb6 hg hld
          go_wp2
          go_roundg (h.massesN - (q + 1))
          case measure => have := HGQ.out; omega
          case rel => exact ⟨q + 1, by omega, rfl, by go_num, HBG.out⟩
        obtain rfl : q = h.massesN := by omega
        have HBF : Hid (Below w.heap.size w wr) := HB2b.out.trans (HBQ.out.mono HB2b.out.size)
        go_wp2
        go_ret
        exact Ret.b rfl HBF.out

end Go.Proofs.YtllchmacipacnaaGreatDoor
