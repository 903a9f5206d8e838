/- Pits, peaks and ways of descent of the program, where all is valid. -/
import Derived.Test.YtmldijckjenbcaaGreatDoorTerr2
import Derived.Test.YtmldijckjenbcaaGreatDoorSteep
import Derived.Test.YtmldijckjenbcaaGreatDoorTerr
import Derived.Test.YtmldijckjenbcaaGreatDoorHasP
import Derived.Test.YtmldijckjenbcaaGreatDoorPush2
import Derived.Deep.RegionHeld3
import Derived.BigQuiet
namespace Go.Proofs.YtmldijckjenbcaaGreatDoor
open Go.RowKit

theorem own_int1 (w : World) (c : Int) : OwnsL (w.alloc (.cells #[.int .i64 c] 2)) w.heap.size 2 1 i64cells (.slice (some ⟨w.heap.size, 0, none⟩) 1 1) [c] :=
  ⟨by rw [flat_len i64cells_len], .inr ⟨w.heap.size, 1, #[.int .i64 c], rfl, Nat.le_refl _, Own.new w _ _, Nat.le_refl _, by decide, rfl, rfl⟩⟩
theorem findI_geT {α : Type} (p : α → Bool) (xs : List α) : decide (0 ≤ findI p xs) = xs.any p := findI_any p xs
set_option maxRecDepth 100000 in
set_option maxHeartbeats 1000000 in
theorem pit1_any (g : GridR) (c d b0 b1 : Nat) (sd ss : Int) (w : World) (ho : BoxD b0 g w) (hgb : gridB g.val = true) (hc : c < g.heightsN) (hd : d < g.heightsN) (h1 : w.cell? ⟨b1, 0, none⟩ = some (.int .i64 c)) (hl1 : b1 < w.heap.size) :
    Calls Tryz.prog 31 #[.agg #[.int .i64 d, .int .i64 sd, .int .i64 ss], .pointer (some ⟨b0, 0, none⟩), .pointer (some ⟨b1, 0, none⟩)] w (Ret (.bool (lowB g.val c ⟨d, sd, ss⟩)) w) := by
  obtain ⟨ga, go, hgA, _⟩ := hts_at ho.gi hgb (show 0 < g.heightsN by omega)
  obtain ⟨w3, hw3⟩ : ∃ w3, w.alloc (.cells #[.int .i64 d, .int .i64 sd, .int .i64 ss] 56) = w3 := ⟨_, rfl⟩
  obtain ⟨Z, hZ⟩ : ∃ Z, w.heap.size = Z := ⟨_, rfl⟩
  have HZ3 : Hid (Own w3 Z 56 #[.int .i64 d, .int .i64 sd, .int .i64 ss]) := by rw [Hid, ← hw3, ← hZ]; exact Own.new _ _ _
  have hb3 : Below w.heap.size w w3 := by rw [← hw3]; exact (Below.refl _ _).alloc (Nat.le_refl _) _
  have HB3 := Lib.hid hb3
  have HO3 := Lib.hid (ho.grow hb3)
  have hc1 : w3.cell? ⟨b1, 0, none⟩ = some (.int .i64 c) := (hb3.cell (p := ⟨b1, 0, none⟩) hl1).trans h1
  have hl3 : b1 < w3.heap.size := Nat.lt_of_lt_of_le hl1 hb3.size
  obtain ⟨e1, e2⟩ := ht_cell HO3.out.gi hgb hgA hd
  obtain ⟨e3, _⟩ := ht_cell HO3.out.gi hgb hgA hc
  have z0 := HZ3.out.cell 0
  simp at z0
  have lz := HZ3.out.lt
  obtain ⟨y0, y1, y2, y3, ly⟩ := HO3.out.cells
  rw [hgA] at y3
  obtain ⟨p, hp⟩ : ∃ p, ht g.val d = p := ⟨_, rfl⟩
  obtain ⟨q, hq⟩ : ∃ q, ht g.val c = q := ⟨_, rfl⟩
  have HR : Hid (lowB g.val c ⟨d, sd, ss⟩ = decide (p < q)) := by rw [Hid, ← hp, ← hq]; rfl
  rw [hp] at e1
  rw [hq] at e3
  have HW3 := Lib.hid hw3
  have HZZ := Lib.hid hZ
  clear hp hq hw3 hZ hb3 h1 ho hgA
  go_enter Tryz.func31, Tryz.ntmps31
  go_wp2_with fail
  rw [HW3.out, HZZ.out]
  have hsub := fun (v : Sub w3) b o (h : b < w3.heap.size) => v.cell b o h
  refine wp_region_sub (by kernel_rfl) (by kernel_rfl) ?_
  repeat (go_big_quiet_step (fail))
  refine wpQuiet_nil ?_
  intro wg hg
  have HBG := Lib.hid (HB3.out.trans (hg.mono HB3.out.size))
  clear hsub hg z0 lz e1 e2 e3 y0 y1 y2 y3 ly hc1 hl3
  go_wp2
  go_ret
  exact Ret.b HR.out.symm HBG.out
set_option maxRecDepth 100000 in
set_option maxHeartbeats 1000000 in
theorem pitIdx_any (g : GridR) (c b0 b1 : Nat) (A : Option Addr) (n cc : Nat) (L : List Stp) (w : World) (hL : SliceOf w 3 Stp.cells A n L) (hLm : ∀ x ∈ L, ∃ d : Nat, x.cell = d ∧ d < g.heightsN) (ho : BoxD b0 g w) (hgb : gridB g.val = true) (hc : c < g.heightsN) (h1 : w.cell? ⟨b1, 0, none⟩ = some (.int .i64 c)) (hl1 : b1 < w.heap.size) :
    Calls Tryz.prog 47 #[.slice A n cc, .func (.func 31) #[] #[.pointer (some ⟨b0, 0, none⟩), .pointer (some ⟨b1, 0, none⟩)]] w (Ret (.int .i64 (findI (lowB g.val c) L)) w) := by
  have hn := hL.le
  have HLL := Lib.hid hL.len
  have HL := Lib.hid hL
  have HO := Lib.hid ho
  have H1 := Lib.hid h1
  have HM := Lib.hid hLm
  have HGB := Lib.hid hgb
  clear hL ho h1 hLm hgb
  go_enter Tryz.func47, Tryz.ntmps47
  go_wp2
  go_loopg [8] n (fun gk i wr => ∃ k : Nat, k ≤ n ∧ gk = n - k ∧ i = .int .i64 k ∧ Below w.heap.size w wr ∧ NoneTo (lowB g.val c) L k)
  case atStart => exact ⟨0, Nat.zero_le _, rfl, rfl, Below.refl _ _, NoneTo.zero⟩
  case round =>
    obtain ⟨k, hk, hgk, rfl, hbb, hall⟩ := hrel
    have Hall := Lib.hid hall
    have Hgk := Lib.hid hgk
    have HBB := Lib.hid hbb
    clear hall hgk hbb
    by_cases hlt : k < n
    · obtain ⟨b2, o2, z, rfl, hb2, hzk, x0, x1, x2⟩ := stp_at (HL.out.below HBB.out) hlt
      have HZK := Lib.hid hzk
      obtain ⟨d, hd, hdN⟩ := HM.out z (List.mem_of_getElem? hzk)
      obtain ⟨zc, zd, zs⟩ := z
      have hzc : zc = (d : Int) := hd
      subst hzc
      simp only at x0 x1 x2
      have hcell := (HBB.out.cell (p := ⟨b1, 0, none⟩) hl1).trans H1.out
      have HCELL := Lib.hid hcell
      have HL1 : Hid (b1 < wr.heap.size) := Nat.lt_of_lt_of_le hl1 HBB.out.size
      clear hzk hd hcell
      cases hc2 : lowB g.val c ⟨(d : Int), zd, zs⟩
      · have HC := Lib.hid hc2
        go_wp2_with fail
        refine (pit1_any g c d b0 b1 zd zs wr (HO.out.grow HBB.out) HGB.out hc hdN HCELL.out HL1.out).mono ?_
        rintro e w3 ⟨rfl, hb3⟩
        rw [HC.out]
        have HB3 := Lib.hid (HBB.out.trans (hb3.mono HBB.out.size))
        clear hb3 x0 x1 x2 hb2 hc2
        go_wp2
        go_roundg (n - (k + 1))
        case measure => have := Hgk.out; omega
        case rel => exact ⟨k + 1, by omega, rfl, by go_num, HB3.out, Hall.out.step HZK.out HC.out⟩
      · have HC := Lib.hid hc2
        go_wp2_with fail
        refine (pit1_any g c d b0 b1 zd zs wr (HO.out.grow HBB.out) HGB.out hc hdN HCELL.out HL1.out).mono ?_
        rintro e w3 ⟨rfl, hb3⟩
        rw [HC.out]
        have HB3 := Lib.hid (HBB.out.trans (hb3.mono HBB.out.size))
        clear hb3 x0 x1 x2 hb2 hc2
        go_wp2
        go_ret
        exact Ret.i (findI_hit Hall.out HZK.out HC.out).symm HB3.out
    · go_wp2
      go_ret
      exact Ret.i (findI_none (n := k) (by rw [HLL.out]; omega) Hall.out).symm HBB.out
set_option maxHeartbeats 1000000 in
theorem pitAny_any (g : GridR) (c b0 b1 : Nat) (A : Option Addr) (n cc : Nat) (L : List Stp) (w : World) (hL : SliceOf w 3 Stp.cells A n L) (hLm : ∀ x ∈ L, ∃ d : Nat, x.cell = d ∧ d < g.heightsN) (ho : BoxD b0 g w) (hgb : gridB g.val = true) (hc : c < g.heightsN) (h1 : w.cell? ⟨b1, 0, none⟩ = some (.int .i64 c)) (hl1 : b1 < w.heap.size) :
    Calls Tryz.prog 29 #[.slice A n cc, .func (.func 31) #[] #[.pointer (some ⟨b0, 0, none⟩), .pointer (some ⟨b1, 0, none⟩)]] w (Ret (.bool (L.any (lowB g.val c))) w) := by
  have HF := Lib.hid (findI_any (lowB g.val c) L)
  have hC := pitIdx_any g c b0 b1 A n cc L w hL hLm ho hgb hc h1 hl1
  obtain ⟨q, hq⟩ : ∃ q, findI (lowB g.val c) L = q := ⟨_, rfl⟩
  rw [hq] at HF hC
  have HC := Lib.hid hC
  clear hL ho h1 hLm hgb hC hq
  go_enter Tryz.func29, Tryz.ntmps29
  go_wp2_with fail
  refine HC.out.mono ?_
  rintro e w1 ⟨rfl, hb1⟩
  go_wp2
  go_ret
  exact Ret.b (by first | rfl | exact HF.out) hb1
set_option maxRecDepth 100000 in
set_option maxHeartbeats 1000000 in
theorem pitCell_any (g : GridR) (c b0 : Nat) (w : World) (ho : BoxD b0 g w) (hgb : gridB g.val = true) (hc : c < g.heightsN) :
    Calls Tryz.prog 28 #[.int .i64 c, .pointer (some ⟨b0, 0, none⟩)] w (Ret (.bool (pitB g.val c)) w) := by
  obtain ⟨w3, hw3⟩ : ∃ w3, w.alloc (.cells #[.int .i64 c] 2) = w3 := ⟨_, rfl⟩
  obtain ⟨Z, hZ⟩ : ∃ Z, w.heap.size = Z := ⟨_, rfl⟩
  have HZ3 : Hid (Own w3 Z 2 #[.int .i64 c]) := by rw [Hid, ← hw3, ← hZ]; exact Own.new _ _ _
  have hb3 : Below w.heap.size w w3 := by rw [← hw3]; exact (Below.refl _ _).alloc (Nat.le_refl _) _
  have HB3 := Lib.hid hb3
  have HO3 := Lib.hid (ho.grow hb3)
  have HGl : Hid (g.val.heights.length = g.heightsN) := ho.gi.1.len
  have HGB := Lib.hid hgb
  have HW3 := Lib.hid hw3
  have HZZ := Lib.hid hZ
  have z0 := HZ3.out.cell 0
  simp at z0
  have lz := HZ3.out.lt
  obtain ⟨y0, y1, y2, y3, ly⟩ := HO3.out.cells
  clear hb3 ho hgb
  go_enter Tryz.func28, Tryz.ntmps28
  go_wp2_with fail
  clear y0 y1 y2 y3 ly z0 lz hw3 hZ
  refine (next_any g c w3 HO3.out.gi HGB.out hc).mono ?_
  rintro e w4 ⟨v, rfl, hown, hb4⟩
  obtain ⟨A, cc, rfl, _, _, hsl⟩ := hown.slice Stp.cells_len
  obtain ⟨n, hn⟩ : ∃ n, (nextT g.val c 8).length = n := ⟨_, rfl⟩
  rw [hn] at hsl ⊢
  have HSL := Lib.hid hsl
  have HO4 := Lib.hid (HO3.out.grow hb4)
  have HZ4 := Lib.hid (HZ3.out.below' hb4)
  have HB4 := Lib.hid (HB3.out.trans (hb4.mono HB3.out.size))
  have HM : Hid (∀ x ∈ nextT g.val c 8, ∃ d : Nat, x.cell = d ∧ d < g.heightsN) := fun x hx => by
    obtain ⟨d, hd⟩ := stepOf HGB.out (by rw [HGl.out]; exact hc) hx
    exact ⟨d, hd.cell, by rw [← HGl.out]; exact hd.lt⟩
  have hP : (nextT g.val c 8).any (lowB g.val c) = !pitB g.val c := by unfold pitB; rw [Bool.not_not]
  obtain ⟨r, hr⟩ : ∃ r, pitB g.val c = r := ⟨_, rfl⟩
  have HRR := Lib.hid hr
  rw [hr] at hP
  have HP := Lib.hid hP
  clear hown hb4 hsl hn hP hr
  go_wp2_with fail
  refine (pitAny_any g c b0 Z A n cc _ w4 HSL.out HM.out HO4.out HGB.out hc (HZ4.out.cell 0) HZ4.out.lt).mono ?_
  rintro e w5 ⟨rfl, hb5⟩
  rw [HP.out]
  have HB5 := Lib.hid (HB4.out.trans (hb5.mono HB4.out.size))
  clear hb5
  go_wp2
  go_ret
  exact Ret.b (by first | (rw [HRR.out]; done) | (rw [HRR.out]; cases r <;> rfl)) HB5.out
set_option maxRecDepth 100000 in
set_option maxHeartbeats 1000000 in
theorem pitWhere_any (g : GridR) (b0 : Nat) (w : World) (ho : BoxD b0 g w) (hgb : gridB g.val = true) (h64 : g.heightsN ≤ 64) :
    Calls Tryz.prog 27 #[.agg #[.int .i64 g.rows, .int .i64 g.columns, .int .i64 g.size, .slice g.heightsA g.heightsN g.heightsC], .func (.func 28) #[] #[.pointer (some ⟨b0, 0, none⟩)]] w (RetL 2 1 i64cells (whereT (pitB g.val) g.heightsN) w) := by
  obtain ⟨w0, hw0⟩ : ∃ w0, w.alloc (.cells #[.int .i64 g.rows, .int .i64 g.columns, .int .i64 g.size, .slice g.heightsA g.heightsN g.heightsC] 26) = w0 := ⟨_, rfl⟩
  have hB : Below w.heap.size w w0 := by rw [← hw0]; exact (Below.refl _ _).alloc (Nat.le_refl _) _
  have HO : Hid (Own w0 w.heap.size 26 #[.int .i64 g.rows, .int .i64 g.columns, .int .i64 g.size, .slice g.heightsA g.heightsN g.heightsC]) := by rw [Hid, ← hw0]; exact Own.new w 26 #[.int .i64 g.rows, .int .i64 g.columns, .int .i64 g.size, .slice g.heightsA g.heightsN g.heightsC]
  have HB := Lib.hid hB
  have HC0 := Lib.hid (ho.grow hB)
  have HGB := Lib.hid hgb
  obtain ⟨n, hn⟩ : ∃ n, g.heightsN = n := ⟨_, rfl⟩
  have HN := Lib.hid hn
  have hnle : n ≤ 64 := by omega
  have y0 := HO.out.cell 0
  have y1 := HO.out.cell 1
  have y2 := HO.out.cell 2
  have y3 := HO.out.cell 3
  simp at y0 y1 y2 y3
  rw [hn] at y3 hw0 ⊢
  clear hB ho hgb hn h64
  go_enter Tryz.func27, Tryz.ntmps27
  go_wp2
  try rw [hw0]
  clear y0 y1 y2 y3 hw0
  go_loopg [10, 5] n (fun gk i u wr => ∃ (k : Nat) (v : Value), k ≤ n ∧ gk = n - k ∧ i = .int .i64 k ∧ v = u ∧ Below w0.heap.size w0 wr ∧ OwnsL wr w0.heap.size 2 1 i64cells v (whereT (pitB g.val) k))
  case atStart => exact ⟨0, _, Nat.zero_le _, rfl, rfl, rfl, Below.refl _ _, OwnsL.nil_ _ _ _ _ _⟩
  case round =>
    obtain ⟨k, v, hk, hgk, rfl, rfl, hb, hown⟩ := hrel
    have Hgk := Lib.hid hgk
    have HOW := Lib.hid hown
    have HBB := Lib.hid hb
    have HCr := Lib.hid (HC0.out.grow hb)
    clear hgk hown hb
    by_cases hlt : k < n
    · have HKN : Hid (k < g.heightsN) := by rw [Hid, HN.out]; exact hlt
      cases hh : pitB g.val k
      · have HT := Lib.hid (whereT_no hh)
        go_wp2_with fail
        refine (pitCell_any g k b0 wr HCr.out HGB.out HKN.out).mono ?_
        rintro e w1 ⟨rfl, hb1⟩
        rw [hh]
        have HB1 := Lib.hid (HBB.out.trans (hb1.mono HBB.out.size))
        have HOW1 := Lib.hid (HOW.out.below' hb1)
        clear hb1 hh
        go_wp2
        go_roundg (n - (k + 1))
        case measure => have := Hgk.out; omega
        case rel => exact ⟨k + 1, v, by omega, rfl, by go_num, rfl, HB1.out, by rw [HT.out]; exact HOW1.out⟩
      · have HT := Lib.hid (whereT_yes hh)
        have hlen : (whereT (pitB g.val) k).length ≤ 64 := by have := whereT_len (pitB g.val) k; omega
        have HLEN := Lib.hid hlen
        go_wp2_with fail
        refine (pitCell_any g k b0 wr HCr.out HGB.out HKN.out).mono ?_
        rintro e w1 ⟨rfl, hb1⟩
        rw [hh]
        have HB1 := Lib.hid (HBB.out.trans (hb1.mono HBB.out.size))
        have HOW1 := Lib.hid (HOW.out.below' hb1)
        clear hb1 hh
        go_wp2_with (at_builtin; refine wpList_push (by rfl) (.tmp 16) (.tmp 18) 24 (by rfl) w0.heap.size 2 1 Tryz.underlying24 infoI64 (by rfl) (by decide) i64cells i64cells_len i64cells_one _ v _ (k : Int) (by rfl) (by rfl) HOW1.out (by rfl) (by have := HLEN.out; omega) (by decide) HB1.out.size ?_)
        intro v' w' hown' hb' _
        have HW : Hid (OwnsL w' w0.heap.size 2 1 i64cells v' (whereT (pitB g.val) (k + 1))) := by rw [Hid, HT.out]; exact hown'
        have HBW := Lib.hid (HB1.out.trans hb')
        clear hown' hb'
        go_wp2
        go_roundg (n - (k + 1))
        case measure => have := Hgk.out; omega
        case rel => exact ⟨k + 1, v', by omega, rfl, by go_num, rfl, HBW.out, HW.out⟩
    · have hkn : k = n := by omega
      subst hkn
      go_wp2
      go_ret
      exact RetP.mk (HOW.out.rebase HB.out.size) (HB.out.trans (HBB.out.mono HB.out.size))
set_option maxRecDepth 100000 in
set_option maxHeartbeats 1000000 in
theorem pits_ok (g : GridR) (w : World) (hgi : g.In w) (hgb : gridB g.val = true) (h64 : g.heightsN ≤ 64) :
    Calls Tryz.prog 8 #[.agg #[.int .i64 g.rows, .int .i64 g.columns, .int .i64 g.size, .slice g.heightsA g.heightsN g.heightsC]] w (RetLT 2 1 i64cells (whereT (pitB g.val) g.heightsN) [.int .i64 0] w) := by
  have hB : Below w.heap.size w (w.alloc (.cells #[.int .i64 g.rows, .int .i64 g.columns, .int .i64 g.size, .slice g.heightsA g.heightsN g.heightsC] 26)) := (Below.refl _ _).alloc (Nat.le_refl _) _
  have HO0 : Hid (BoxD w.heap.size g (w.alloc (.cells #[.int .i64 g.rows, .int .i64 g.columns, .int .i64 g.size, .slice g.heightsA g.heightsN g.heightsC] 26))) := ⟨Own.new w 26 #[.int .i64 g.rows, .int .i64 g.columns, .int .i64 g.size, .slice g.heightsA g.heightsN g.heightsC], hgi.below hB⟩
  have HB0 := Lib.hid hB
  have HGB := Lib.hid hgb
  clear hgi hB hgb
  obtain ⟨y0, y1, y2, y3, ly⟩ := HO0.out.cells
  go_enter Tryz.func8, Tryz.ntmps8
  go_wp2_with fail
  clear y0 y1 y2 y3 ly
  refine (validGrid_any g _ HO0.out.gi).mono ?_
  rintro e w1 ⟨rfl, hb1⟩
  rw [HGB.out]
  have HO := Lib.hid (HO0.out.grow hb1)
  have HB := Lib.hid (HB0.out.trans (hb1.mono HB0.out.size))
  clear hb1
  obtain ⟨y0, y1, y2, y3, ly⟩ := HO.out.cells
  go_wp2_with fail
  clear y0 y1 y2 y3 ly
  refine (pitWhere_any g w.heap.size w1 HO.out HGB.out h64).mono ?_
  rintro e w2 ⟨v, rfl, ho, hb2⟩
  have HOV := Lib.hid ho
  have HB2 := Lib.hid (HB.out.trans (hb2.mono HB.out.size))
  clear ho hb2
  go_wp2
  go_ret2
  exact ⟨v, rfl, HOV.out.rebase HB.out.size, HB2.out⟩
set_option maxRecDepth 100000 in
set_option maxHeartbeats 1000000 in
theorem peak1_any (g : GridR) (c d b0 b1 : Nat) (sd ss : Int) (w : World) (ho : BoxD b0 g w) (hgb : gridB g.val = true) (hc : c < g.heightsN) (hd : d < g.heightsN) (h1 : w.cell? ⟨b1, 0, none⟩ = some (.int .i64 c)) (hl1 : b1 < w.heap.size) :
    Calls Tryz.prog 33 #[.agg #[.int .i64 d, .int .i64 sd, .int .i64 ss], .pointer (some ⟨b0, 0, none⟩), .pointer (some ⟨b1, 0, none⟩)] w (Ret (.bool (upB g.val c ⟨d, sd, ss⟩)) w) := by
  obtain ⟨ga, go, hgA, _⟩ := hts_at ho.gi hgb (show 0 < g.heightsN by omega)
  obtain ⟨w3, hw3⟩ : ∃ w3, w.alloc (.cells #[.int .i64 d, .int .i64 sd, .int .i64 ss] 56) = w3 := ⟨_, rfl⟩
  obtain ⟨Z, hZ⟩ : ∃ Z, w.heap.size = Z := ⟨_, rfl⟩
  have HZ3 : Hid (Own w3 Z 56 #[.int .i64 d, .int .i64 sd, .int .i64 ss]) := by rw [Hid, ← hw3, ← hZ]; exact Own.new _ _ _
  have hb3 : Below w.heap.size w w3 := by rw [← hw3]; exact (Below.refl _ _).alloc (Nat.le_refl _) _
  have HB3 := Lib.hid hb3
  have HO3 := Lib.hid (ho.grow hb3)
  have hc1 : w3.cell? ⟨b1, 0, none⟩ = some (.int .i64 c) := (hb3.cell (p := ⟨b1, 0, none⟩) hl1).trans h1
  have hl3 : b1 < w3.heap.size := Nat.lt_of_lt_of_le hl1 hb3.size
  obtain ⟨e1, e2⟩ := ht_cell HO3.out.gi hgb hgA hd
  obtain ⟨e3, _⟩ := ht_cell HO3.out.gi hgb hgA hc
  have z0 := HZ3.out.cell 0
  simp at z0
  have lz := HZ3.out.lt
  obtain ⟨y0, y1, y2, y3, ly⟩ := HO3.out.cells
  rw [hgA] at y3
  obtain ⟨p, hp⟩ : ∃ p, ht g.val d = p := ⟨_, rfl⟩
  obtain ⟨q, hq⟩ : ∃ q, ht g.val c = q := ⟨_, rfl⟩
  have HR : Hid (upB g.val c ⟨d, sd, ss⟩ = decide (q < p)) := by rw [Hid, ← hp, ← hq]; rfl
  rw [hp] at e1
  rw [hq] at e3
  have HW3 := Lib.hid hw3
  have HZZ := Lib.hid hZ
  clear hp hq hw3 hZ hb3 h1 ho hgA
  go_enter Tryz.func33, Tryz.ntmps33
  go_wp2_with fail
  rw [HW3.out, HZZ.out]
  have hsub := fun (v : Sub w3) b o (h : b < w3.heap.size) => v.cell b o h
  refine wp_region_sub (by kernel_rfl) (by kernel_rfl) ?_
  repeat (go_big_quiet_step (fail))
  refine wpQuiet_nil ?_
  intro wg hg
  have HBG := Lib.hid (HB3.out.trans (hg.mono HB3.out.size))
  clear hsub hg z0 lz e1 e2 e3 y0 y1 y2 y3 ly hc1 hl3
  go_wp2
  go_ret
  exact Ret.b HR.out.symm HBG.out
set_option maxRecDepth 100000 in
set_option maxHeartbeats 1000000 in
theorem peakIdx_any (g : GridR) (c b0 b1 : Nat) (A : Option Addr) (n cc : Nat) (L : List Stp) (w : World) (hL : SliceOf w 3 Stp.cells A n L) (hLm : ∀ x ∈ L, ∃ d : Nat, x.cell = d ∧ d < g.heightsN) (ho : BoxD b0 g w) (hgb : gridB g.val = true) (hc : c < g.heightsN) (h1 : w.cell? ⟨b1, 0, none⟩ = some (.int .i64 c)) (hl1 : b1 < w.heap.size) :
    Calls Tryz.prog 47 #[.slice A n cc, .func (.func 33) #[] #[.pointer (some ⟨b0, 0, none⟩), .pointer (some ⟨b1, 0, none⟩)]] w (Ret (.int .i64 (findI (upB g.val c) L)) w) := by
  have hn := hL.le
  have HLL := Lib.hid hL.len
  have HL := Lib.hid hL
  have HO := Lib.hid ho
  have H1 := Lib.hid h1
  have HM := Lib.hid hLm
  have HGB := Lib.hid hgb
  clear hL ho h1 hLm hgb
  go_enter Tryz.func47, Tryz.ntmps47
  go_wp2
  go_loopg [8] n (fun gk i wr => ∃ k : Nat, k ≤ n ∧ gk = n - k ∧ i = .int .i64 k ∧ Below w.heap.size w wr ∧ NoneTo (upB g.val c) L k)
  case atStart => exact ⟨0, Nat.zero_le _, rfl, rfl, Below.refl _ _, NoneTo.zero⟩
  case round =>
    obtain ⟨k, hk, hgk, rfl, hbb, hall⟩ := hrel
    have Hall := Lib.hid hall
    have Hgk := Lib.hid hgk
    have HBB := Lib.hid hbb
    clear hall hgk hbb
    by_cases hlt : k < n
    · obtain ⟨b2, o2, z, rfl, hb2, hzk, x0, x1, x2⟩ := stp_at (HL.out.below HBB.out) hlt
      have HZK := Lib.hid hzk
      obtain ⟨d, hd, hdN⟩ := HM.out z (List.mem_of_getElem? hzk)
      obtain ⟨zc, zd, zs⟩ := z
      have hzc : zc = (d : Int) := hd
      subst hzc
      simp only at x0 x1 x2
      have hcell := (HBB.out.cell (p := ⟨b1, 0, none⟩) hl1).trans H1.out
      have HCELL := Lib.hid hcell
      have HL1 : Hid (b1 < wr.heap.size) := Nat.lt_of_lt_of_le hl1 HBB.out.size
      clear hzk hd hcell
      cases hc2 : upB g.val c ⟨(d : Int), zd, zs⟩
      · have HC := Lib.hid hc2
        go_wp2_with fail
        refine (peak1_any g c d b0 b1 zd zs wr (HO.out.grow HBB.out) HGB.out hc hdN HCELL.out HL1.out).mono ?_
        rintro e w3 ⟨rfl, hb3⟩
        rw [HC.out]
        have HB3 := Lib.hid (HBB.out.trans (hb3.mono HBB.out.size))
        clear hb3 x0 x1 x2 hb2 hc2
        go_wp2
        go_roundg (n - (k + 1))
        case measure => have := Hgk.out; omega
        case rel => exact ⟨k + 1, by omega, rfl, by go_num, HB3.out, Hall.out.step HZK.out HC.out⟩
      · have HC := Lib.hid hc2
        go_wp2_with fail
        refine (peak1_any g c d b0 b1 zd zs wr (HO.out.grow HBB.out) HGB.out hc hdN HCELL.out HL1.out).mono ?_
        rintro e w3 ⟨rfl, hb3⟩
        rw [HC.out]
        have HB3 := Lib.hid (HBB.out.trans (hb3.mono HBB.out.size))
        clear hb3 x0 x1 x2 hb2 hc2
        go_wp2
        go_ret
        exact Ret.i (findI_hit Hall.out HZK.out HC.out).symm HB3.out
    · go_wp2
      go_ret
      exact Ret.i (findI_none (n := k) (by rw [HLL.out]; omega) Hall.out).symm HBB.out
set_option maxHeartbeats 1000000 in
theorem peakAny_any (g : GridR) (c b0 b1 : Nat) (A : Option Addr) (n cc : Nat) (L : List Stp) (w : World) (hL : SliceOf w 3 Stp.cells A n L) (hLm : ∀ x ∈ L, ∃ d : Nat, x.cell = d ∧ d < g.heightsN) (ho : BoxD b0 g w) (hgb : gridB g.val = true) (hc : c < g.heightsN) (h1 : w.cell? ⟨b1, 0, none⟩ = some (.int .i64 c)) (hl1 : b1 < w.heap.size) :
    Calls Tryz.prog 29 #[.slice A n cc, .func (.func 33) #[] #[.pointer (some ⟨b0, 0, none⟩), .pointer (some ⟨b1, 0, none⟩)]] w (Ret (.bool (L.any (upB g.val c))) w) := by
  have HF := Lib.hid (findI_any (upB g.val c) L)
  have hC := peakIdx_any g c b0 b1 A n cc L w hL hLm ho hgb hc h1 hl1
  obtain ⟨q, hq⟩ : ∃ q, findI (upB g.val c) L = q := ⟨_, rfl⟩
  rw [hq] at HF hC
  have HC := Lib.hid hC
  clear hL ho h1 hLm hgb hC hq
  go_enter Tryz.func29, Tryz.ntmps29
  go_wp2_with fail
  refine HC.out.mono ?_
  rintro e w1 ⟨rfl, hb1⟩
  go_wp2
  go_ret
  exact Ret.b (by first | rfl | exact HF.out) hb1
set_option maxRecDepth 100000 in
set_option maxHeartbeats 1000000 in
theorem peakCell_any (g : GridR) (c b0 : Nat) (w : World) (ho : BoxD b0 g w) (hgb : gridB g.val = true) (hc : c < g.heightsN) :
    Calls Tryz.prog 32 #[.int .i64 c, .pointer (some ⟨b0, 0, none⟩)] w (Ret (.bool (peakB g.val c)) w) := by
  obtain ⟨w3, hw3⟩ : ∃ w3, w.alloc (.cells #[.int .i64 c] 2) = w3 := ⟨_, rfl⟩
  obtain ⟨Z, hZ⟩ : ∃ Z, w.heap.size = Z := ⟨_, rfl⟩
  have HZ3 : Hid (Own w3 Z 2 #[.int .i64 c]) := by rw [Hid, ← hw3, ← hZ]; exact Own.new _ _ _
  have hb3 : Below w.heap.size w w3 := by rw [← hw3]; exact (Below.refl _ _).alloc (Nat.le_refl _) _
  have HB3 := Lib.hid hb3
  have HO3 := Lib.hid (ho.grow hb3)
  have HGl : Hid (g.val.heights.length = g.heightsN) := ho.gi.1.len
  have HGB := Lib.hid hgb
  have HW3 := Lib.hid hw3
  have HZZ := Lib.hid hZ
  have z0 := HZ3.out.cell 0
  simp at z0
  have lz := HZ3.out.lt
  obtain ⟨y0, y1, y2, y3, ly⟩ := HO3.out.cells
  clear hb3 ho hgb
  go_enter Tryz.func32, Tryz.ntmps32
  go_wp2_with fail
  clear y0 y1 y2 y3 ly z0 lz hw3 hZ
  refine (next_any g c w3 HO3.out.gi HGB.out hc).mono ?_
  rintro e w4 ⟨v, rfl, hown, hb4⟩
  obtain ⟨A, cc, rfl, _, _, hsl⟩ := hown.slice Stp.cells_len
  obtain ⟨n, hn⟩ : ∃ n, (nextT g.val c 8).length = n := ⟨_, rfl⟩
  rw [hn] at hsl ⊢
  have HSL := Lib.hid hsl
  have HO4 := Lib.hid (HO3.out.grow hb4)
  have HZ4 := Lib.hid (HZ3.out.below' hb4)
  have HB4 := Lib.hid (HB3.out.trans (hb4.mono HB3.out.size))
  have HM : Hid (∀ x ∈ nextT g.val c 8, ∃ d : Nat, x.cell = d ∧ d < g.heightsN) := fun x hx => by
    obtain ⟨d, hd⟩ := stepOf HGB.out (by rw [HGl.out]; exact hc) hx
    exact ⟨d, hd.cell, by rw [← HGl.out]; exact hd.lt⟩
  have hP : (nextT g.val c 8).any (upB g.val c) = !peakB g.val c := by unfold peakB; rw [Bool.not_not]
  obtain ⟨r, hr⟩ : ∃ r, peakB g.val c = r := ⟨_, rfl⟩
  have HRR := Lib.hid hr
  rw [hr] at hP
  have HP := Lib.hid hP
  clear hown hb4 hsl hn hP hr
  go_wp2_with fail
  refine (peakAny_any g c b0 Z A n cc _ w4 HSL.out HM.out HO4.out HGB.out hc (HZ4.out.cell 0) HZ4.out.lt).mono ?_
  rintro e w5 ⟨rfl, hb5⟩
  rw [HP.out]
  have HB5 := Lib.hid (HB4.out.trans (hb5.mono HB4.out.size))
  clear hb5
  go_wp2
  go_ret
  exact Ret.b (by first | (rw [HRR.out]; done) | (rw [HRR.out]; cases r <;> rfl)) HB5.out
set_option maxRecDepth 100000 in
set_option maxHeartbeats 1000000 in
theorem peakWhere_any (g : GridR) (b0 : Nat) (w : World) (ho : BoxD b0 g w) (hgb : gridB g.val = true) (h64 : g.heightsN ≤ 64) :
    Calls Tryz.prog 27 #[.agg #[.int .i64 g.rows, .int .i64 g.columns, .int .i64 g.size, .slice g.heightsA g.heightsN g.heightsC], .func (.func 32) #[] #[.pointer (some ⟨b0, 0, none⟩)]] w (RetL 2 1 i64cells (whereT (peakB g.val) g.heightsN) w) := by
  obtain ⟨w0, hw0⟩ : ∃ w0, w.alloc (.cells #[.int .i64 g.rows, .int .i64 g.columns, .int .i64 g.size, .slice g.heightsA g.heightsN g.heightsC] 26) = w0 := ⟨_, rfl⟩
  have hB : Below w.heap.size w w0 := by rw [← hw0]; exact (Below.refl _ _).alloc (Nat.le_refl _) _
  have HO : Hid (Own w0 w.heap.size 26 #[.int .i64 g.rows, .int .i64 g.columns, .int .i64 g.size, .slice g.heightsA g.heightsN g.heightsC]) := by rw [Hid, ← hw0]; exact Own.new w 26 #[.int .i64 g.rows, .int .i64 g.columns, .int .i64 g.size, .slice g.heightsA g.heightsN g.heightsC]
  have HB := Lib.hid hB
  have HC0 := Lib.hid (ho.grow hB)
  have HGB := Lib.hid hgb
  obtain ⟨n, hn⟩ : ∃ n, g.heightsN = n := ⟨_, rfl⟩
  have HN := Lib.hid hn
  have hnle : n ≤ 64 := by omega
  have y0 := HO.out.cell 0
  have y1 := HO.out.cell 1
  have y2 := HO.out.cell 2
  have y3 := HO.out.cell 3
  simp at y0 y1 y2 y3
  rw [hn] at y3 hw0 ⊢
  clear hB ho hgb hn h64
  go_enter Tryz.func27, Tryz.ntmps27
  go_wp2
  try rw [hw0]
  clear y0 y1 y2 y3 hw0
  go_loopg [10, 5] n (fun gk i u wr => ∃ (k : Nat) (v : Value), k ≤ n ∧ gk = n - k ∧ i = .int .i64 k ∧ v = u ∧ Below w0.heap.size w0 wr ∧ OwnsL wr w0.heap.size 2 1 i64cells v (whereT (peakB g.val) k))
  case atStart => exact ⟨0, _, Nat.zero_le _, rfl, rfl, rfl, Below.refl _ _, OwnsL.nil_ _ _ _ _ _⟩
  case round =>
    obtain ⟨k, v, hk, hgk, rfl, rfl, hb, hown⟩ := hrel
    have Hgk := Lib.hid hgk
    have HOW := Lib.hid hown
    have HBB := Lib.hid hb
    have HCr := Lib.hid (HC0.out.grow hb)
    clear hgk hown hb
    by_cases hlt : k < n
    · have HKN : Hid (k < g.heightsN) := by rw [Hid, HN.out]; exact hlt
      cases hh : peakB g.val k
      · have HT := Lib.hid (whereT_no hh)
        go_wp2_with fail
        refine (peakCell_any g k b0 wr HCr.out HGB.out HKN.out).mono ?_
        rintro e w1 ⟨rfl, hb1⟩
        rw [hh]
        have HB1 := Lib.hid (HBB.out.trans (hb1.mono HBB.out.size))
        have HOW1 := Lib.hid (HOW.out.below' hb1)
        clear hb1 hh
        go_wp2
        go_roundg (n - (k + 1))
        case measure => have := Hgk.out; omega
        case rel => exact ⟨k + 1, v, by omega, rfl, by go_num, rfl, HB1.out, by rw [HT.out]; exact HOW1.out⟩
      · have HT := Lib.hid (whereT_yes hh)
        have hlen : (whereT (peakB g.val) k).length ≤ 64 := by have := whereT_len (peakB g.val) k; omega
        have HLEN := Lib.hid hlen
        go_wp2_with fail
        refine (peakCell_any g k b0 wr HCr.out HGB.out HKN.out).mono ?_
        rintro e w1 ⟨rfl, hb1⟩
        rw [hh]
        have HB1 := Lib.hid (HBB.out.trans (hb1.mono HBB.out.size))
        have HOW1 := Lib.hid (HOW.out.below' hb1)
        clear hb1 hh
        go_wp2_with (at_builtin; refine wpList_push (by rfl) (.tmp 16) (.tmp 18) 24 (by rfl) w0.heap.size 2 1 Tryz.underlying24 infoI64 (by rfl) (by decide) i64cells i64cells_len i64cells_one _ v _ (k : Int) (by rfl) (by rfl) HOW1.out (by rfl) (by have := HLEN.out; omega) (by decide) HB1.out.size ?_)
        intro v' w' hown' hb' _
        have HW : Hid (OwnsL w' w0.heap.size 2 1 i64cells v' (whereT (peakB g.val) (k + 1))) := by rw [Hid, HT.out]; exact hown'
        have HBW := Lib.hid (HB1.out.trans hb')
        clear hown' hb'
        go_wp2
        go_roundg (n - (k + 1))
        case measure => have := Hgk.out; omega
        case rel => exact ⟨k + 1, v', by omega, rfl, by go_num, rfl, HBW.out, HW.out⟩
    · have hkn : k = n := by omega
      subst hkn
      go_wp2
      go_ret
      exact RetP.mk (HOW.out.rebase HB.out.size) (HB.out.trans (HBB.out.mono HB.out.size))
set_option maxRecDepth 100000 in
set_option maxHeartbeats 1000000 in
theorem peaks_ok (g : GridR) (w : World) (hgi : g.In w) (hgb : gridB g.val = true) (h64 : g.heightsN ≤ 64) :
    Calls Tryz.prog 9 #[.agg #[.int .i64 g.rows, .int .i64 g.columns, .int .i64 g.size, .slice g.heightsA g.heightsN g.heightsC]] w (RetLT 2 1 i64cells (whereT (peakB g.val) g.heightsN) [.int .i64 0] w) := by
  have hB : Below w.heap.size w (w.alloc (.cells #[.int .i64 g.rows, .int .i64 g.columns, .int .i64 g.size, .slice g.heightsA g.heightsN g.heightsC] 26)) := (Below.refl _ _).alloc (Nat.le_refl _) _
  have HO0 : Hid (BoxD w.heap.size g (w.alloc (.cells #[.int .i64 g.rows, .int .i64 g.columns, .int .i64 g.size, .slice g.heightsA g.heightsN g.heightsC] 26))) := ⟨Own.new w 26 #[.int .i64 g.rows, .int .i64 g.columns, .int .i64 g.size, .slice g.heightsA g.heightsN g.heightsC], hgi.below hB⟩
  have HB0 := Lib.hid hB
  have HGB := Lib.hid hgb
  clear hgi hB hgb
  obtain ⟨y0, y1, y2, y3, ly⟩ := HO0.out.cells
  go_enter Tryz.func9, Tryz.ntmps9
  go_wp2_with fail
  clear y0 y1 y2 y3 ly
  refine (validGrid_any g _ HO0.out.gi).mono ?_
  rintro e w1 ⟨rfl, hb1⟩
  rw [HGB.out]
  have HO := Lib.hid (HO0.out.grow hb1)
  have HB := Lib.hid (HB0.out.trans (hb1.mono HB0.out.size))
  clear hb1
  obtain ⟨y0, y1, y2, y3, ly⟩ := HO.out.cells
  go_wp2_with fail
  clear y0 y1 y2 y3 ly
  refine (peakWhere_any g w.heap.size w1 HO.out HGB.out h64).mono ?_
  rintro e w2 ⟨v, rfl, ho, hb2⟩
  have HOV := Lib.hid ho
  have HB2 := Lib.hid (HB.out.trans (hb2.mono HB.out.size))
  clear ho hb2
  go_wp2
  go_ret2
  exact ⟨v, rfl, HOV.out.rebase HB.out.size, HB2.out⟩
set_option maxRecDepth 100000 in
set_option maxHeartbeats 2000000 in
theorem descent_ok (g : GridR) (c : Nat) (w : World) (hgi : g.In w) (hgb : gridB g.val = true) (hc : c < g.heightsN) :
    Calls Tryz.prog 38 #[.agg #[.int .i64 g.rows, .int .i64 g.columns, .int .i64 g.size, .slice g.heightsA g.heightsN g.heightsC], .int .i64 c] w (fun e w' => ∃ (v : Value) (ys : List Int) (d : Nat), e = .returned v ∧ WayTo g.val c d ys ∧ (steepT g.val d).2 = false ∧ OwnsL w' w.heap.size 2 1 i64cells v ys ∧ Below w.heap.size w w') := by
  obtain ⟨w0, hw0⟩ : ∃ w0, (w.alloc (.cells #[.int .i64 g.rows, .int .i64 g.columns, .int .i64 g.size, .slice g.heightsA g.heightsN g.heightsC] 26)).alloc (.cells #[.int .i64 c] 2) = w0 := ⟨_, rfl⟩
  have h1 : Below w.heap.size w (w.alloc (.cells #[.int .i64 g.rows, .int .i64 g.columns, .int .i64 g.size, .slice g.heightsA g.heightsN g.heightsC] 26)) := (Below.refl _ _).alloc (Nat.le_refl _) _
  have hb0 : Below w.heap.size w w0 := by rw [← hw0]; exact h1.alloc h1.size _
  have HB := Lib.hid hb0
  have HO : Hid (BoxD w.heap.size g w0) := ⟨by rw [← hw0]; exact (Own.new w 26 #[.int .i64 g.rows, .int .i64 g.columns, .int .i64 g.size, .slice g.heightsA g.heightsN g.heightsC]).below' ((Below.refl _ _).alloc (Nat.le_refl _) _), hgi.below hb0⟩
  have HOW : Hid (OwnsL w0 (w.heap.size + 1) 2 1 i64cells (.slice (some ⟨w.heap.size + 1, 0, none⟩) 1 1) [(c : Int)]) := by
    have h := own_int1 (w.alloc (.cells #[.int .i64 g.rows, .int .i64 g.columns, .int .i64 g.size, .slice g.heightsA g.heightsN g.heightsC] 26)) c
    rw [show (w.alloc (.cells #[.int .i64 g.rows, .int .i64 g.columns, .int .i64 g.size, .slice g.heightsA g.heightsN g.heightsC] 26)).heap.size = w.heap.size + 1 by simp] at h
    rw [Hid, ← hw0]; exact h
  have HGl : Hid (g.val.heights.length = g.heightsN) := hgi.1.len
  have HGB := Lib.hid hgb
  have hcl : c < g.val.heights.length := by rw [HGl.out]; exact hc
  have HWT := Lib.hid (WayTo.start hgb hcl)
  have HGI := Lib.hid hgi
  obtain ⟨y0, y1, y2, y3, ly⟩ := HO.out.cells
  clear h1 hb0 hgi hgb hcl
  go_enter Tryz.func38, Tryz.ntmps38
  go_wp2_with fail
  try rw [hw0]
  clear y0 y1 y2 y3 ly hw0
  refine (steepest_any g c w0 HO.out.gi HGB.out hc).mono ?_
  rintro e w1 ⟨rfl, hb1⟩
  obtain ⟨s, hs⟩ : ∃ s, (steepT g.val c).1 = s := ⟨_, rfl⟩
  obtain ⟨f, hf⟩ : ∃ f, (steepT g.val c).2 = f := ⟨_, rfl⟩
  rw [hs, hf]
  have HST : Hid (steepT g.val c = (s, f)) := by rw [Hid, ← hs, ← hf]
  obtain ⟨w2, hw2⟩ : ∃ w2, w1.alloc (.cells #[.int .i64 s.cell, .int .i64 s.dir, .int .i64 s.slope] 56) = w2 := ⟨_, rfl⟩
  obtain ⟨Z, hZ⟩ : ∃ Z, w1.heap.size = Z := ⟨_, rfl⟩
  have hb2 : Below w1.heap.size w1 w2 := by rw [← hw2]; exact (Below.refl _ _).alloc (Nat.le_refl _) _
  have HZ2 : Hid (Own w2 Z 56 s.cells.toArray) := by rw [Hid, ← hw2, ← hZ]; exact Own.new _ _ _
  have HB2 : Hid (Below w.heap.size w w2) := (HB.out.trans (hb1.mono HB.out.size)).trans (hb2.mono (Nat.le_trans HB.out.size hb1.size))
  have HO2 := Lib.hid ((HO.out.grow hb1).grow hb2)
  have HOW2 := Lib.hid ((HOW.out.below' hb1).below' hb2)
  have HZX : Hid (w.heap.size < Z) := by rw [Hid, ← hZ]; have := HO.out.own.lt; have := hb1.size; omega
  have HZO : Hid (∀ b, (Value.slice (some ⟨w.heap.size + 1, 0, none⟩) 1 1).ownBlock = some b → b ≠ Z) := fun b hb => by
    have h := ((HOW.out.below' hb1).lt b hb).2
    rw [hZ] at h; omega
  have HW2 := Lib.hid hw2
  have HZZ := Lib.hid hZ
  clear hs hf hb1 hb2 hw2 hZ
  go_wp2
  try rw [HW2.out, HZZ.out]
  go_loopg [5, 6, 7] (ht g.val c).toNat (fun gk sl bx fd wr => ∃ (d Y : Nat) (v : Value) (ys : List Int) (s : Stp) (f : Bool), gk = (ht g.val d).toNat ∧ v = sl ∧ bx = .pointer (some ⟨Y, 0, none⟩) ∧ fd = .bool f ∧ steepT g.val d = (s, f) ∧ WayTo g.val c d ys ∧ w.heap.size < Y ∧ Own wr Y 56 s.cells.toArray ∧ BoxD w.heap.size g wr ∧ OwnsL wr (w.heap.size + 1) 2 1 i64cells v ys ∧ (∀ b, v.ownBlock = some b → b ≠ Y) ∧ Below w.heap.size w wr)
  case atStart => exact ⟨c, Z, _, _, s, f, rfl, rfl, rfl, rfl, HST.out, HWT.out, HZX.out, HZ2.out, HO2.out, HOW2.out, HZO.out, HB2.out⟩
  case round =>
    obtain ⟨d, Y, v, ys, s, f, hgk, rfl, rfl, rfl, hst, hwt, hyx, hy, ho, how, hvo, hbb⟩ := hrel
    have HST := Lib.hid hst
    have HWT := Lib.hid hwt
    have HY := Lib.hid hy
    have HYX := Lib.hid hyx
    have HO := Lib.hid ho
    have HOW := Lib.hid how
    have HVO := Lib.hid hvo
    have HBB := Lib.hid hbb
    have HGK := Lib.hid hgk
    clear hst hwt hy hyx ho how hvo hbb hgk
    cases f
    · go_wp2
      go_ret
      exact ⟨_, ys, d, rfl, HWT.out, by rw [HST.out], HOW.out.rebase (Nat.le_succ _), HBB.out⟩
    · have HSP := steep_spec g.val d
      rw [HST.out] at HSP
      obtain ⟨hsm, hsl⟩ : s ∈ nextT g.val d 8 ∧ ht g.val s.cell < ht g.val d := by
        rcases HSP with ⟨h, _⟩ | ⟨_, h2, h3, _⟩
        · cases h
        · exact ⟨h2, h3⟩
      obtain ⟨e, he⟩ := stepOf HGB.out HWT.out.lt hsm
      obtain ⟨se, sd, ss⟩ := s
      have hse : se = (e : Int) := he.cell
      subst hse
      have hsl2 : ht g.val e < ht g.val d := hsl
      have HNW := Lib.hid (HWT.out.next he.lt hsl2)
      have heN : e < g.heightsN := by rw [← HGl.out]; exact he.lt
      have hlen : (ys.length : Int) ≤ 5001 := by have := HWT.out.len; have := (ht_bd HGB.out HWT.out.lt).1; omega
      have HLEN := Lib.hid hlen
      have HLT : Hid ((ht g.val e).toNat < (ht g.val d).toNat) := by rw [Hid]; have := (ht_bd HGB.out he.lt).1; omega
      have z0 : wr.cell? ⟨Y, 0, none⟩ = some (.int .i64 e) := HY.out.cell 0
      have lz := HY.out.lt
      clear HSP hsm hsl he hsl2 hlen
      go_wp2_with (at_builtin; refine wpList_push2 (by rfl) (.tmp 24) (.tmp 27) 24 (by rfl) (w.heap.size + 1) 2 1 Tryz.underlying24 infoI64 (by rfl) (by decide) i64cells i64cells_len i64cells_one _ v ys (e : Int) (by rfl) (by rfl) HOW.out (by first | rfl | simp [go_sem]) (by have := HLEN.out; omega) (by decide) (by have := HO.out.own.lt; omega) ?_)
      intro v' w' hown' hb' hkp' hob
      have HOWN := Lib.hid hown'
      have HBB1 : Hid (Below w.heap.size w w') := HBB.out.trans (hb'.mono (Nat.le_succ _))
      have HY1 : Hid (Own w' Y 56 (Stp.cells ⟨(e : Int), sd, ss⟩).toArray) := (hkp' Y lz (fun e => HVO.out Y e.symm rfl)).trans HY.out
      have HO1 : Hid (BoxD w.heap.size g w') := ⟨HO.out.own.below hb' (Nat.lt_succ_self _), HGI.out.below HBB1.out⟩
      clear hown' hb' hkp' hob z0 lz
      have z0 : w'.cell? ⟨Y, 0, none⟩ = some (.int .i64 e) := HY1.out.cell 0
      have z1 : w'.cell? ⟨Y, 1, none⟩ = some (.int .i64 sd) := HY1.out.cell 1
      have z2 : w'.cell? ⟨Y, 2, none⟩ = some (.int .i64 ss) := HY1.out.cell 2
      have lz := HY1.out.lt
      obtain ⟨w4, hw4⟩ : ∃ w4, w'.alloc (.cells #[.int .i64 e, .int .i64 sd, .int .i64 ss] 56) = w4 := ⟨_, rfl⟩
      obtain ⟨Y2, hY2⟩ : ∃ Y2, w'.heap.size = Y2 := ⟨_, rfl⟩
      have hb4 : Below w'.heap.size w' w4 := by rw [← hw4]; exact (Below.refl _ _).alloc (Nat.le_refl _) _
      have HZ4 : Hid (Own w4 Y2 56 (Stp.cells ⟨(e : Int), sd, ss⟩).toArray) := by rw [Hid, ← hw4, ← hY2]; exact Own.new _ _ _
      have HO4 := Lib.hid (HO1.out.grow hb4)
      have HOWN4 := Lib.hid (HOWN.out.below' hb4)
      have HB4 : Hid (Below w.heap.size w w4) := HBB1.out.trans (hb4.mono HBB1.out.size)
      have HVY : Hid (∀ b, v'.ownBlock = some b → b ≠ Y2) := fun b hb => by have := (HOWN.out.lt b hb).2; omega
      have HXY : Hid (w.heap.size < Y2) := by have := HO1.out.own.lt; rw [Hid]; omega
      have q0 : w4.cell? ⟨Y2, 0, none⟩ = some (.int .i64 e) := HZ4.out.cell 0
      have lq := HZ4.out.lt
      obtain ⟨y0, y1, y2, y3, ly⟩ := HO4.out.cells
      clear hb4
      go_wp2_with fail
      clear z0 z1 z2 lz q0 lq y0 y1 y2 y3 ly hw4 hY2
      refine (steepest_any g e w4 HO4.out.gi HGB.out heN).mono ?_
      rintro _ w5 ⟨rfl, hb5⟩
      obtain ⟨s2, hs2⟩ : ∃ s2, (steepT g.val e).1 = s2 := ⟨_, rfl⟩
      obtain ⟨f2, hf2⟩ : ∃ f2, (steepT g.val e).2 = f2 := ⟨_, rfl⟩
      rw [hs2, hf2]
      have HST2 : Hid (steepT g.val e = (s2, f2)) := by rw [Hid, ← hs2, ← hf2]
      have HZ5 := Lib.hid (HZ4.out.below' hb5)
      have HO5 := Lib.hid (HO4.out.grow hb5)
      have HOWN5 := Lib.hid (HOWN4.out.below' hb5)
      have HB5 := Lib.hid (HB4.out.trans (hb5.mono HB4.out.size))
      clear hs2 hf2 hb5
      have z0 : w5.cell? ⟨Y2, 0, none⟩ = some (.int .i64 e) := HZ5.out.cell 0
      have z1 : w5.cell? ⟨Y2, 1, none⟩ = some (.int .i64 sd) := HZ5.out.cell 1
      have z2 : w5.cell? ⟨Y2, 2, none⟩ = some (.int .i64 ss) := HZ5.out.cell 2
      have fz := HZ5.out.frozen
      have lz := HZ5.out.lt
      obtain ⟨w6, hw6⟩ : ∃ w6, ((w5.setCell ⟨Y2, 0, none⟩ (.int .i64 s2.cell)).setCell ⟨Y2, 1, none⟩ (.int .i64 s2.dir)).setCell ⟨Y2, 2, none⟩ (.int .i64 s2.slope) = w6 := ⟨_, rfl⟩
      have hh : ∀ k, k ≠ Y2 → w6.heap[k]? = w5.heap[k]? := fun k hk => by rw [← hw6]; exact stp3_heap w5 Y2 _ _ _ k hk
      have HZ6 : Hid (Own w6 Y2 56 s2.cells.toArray) := by rw [Hid, ← hw6]; exact Own.stp3 ⟨(e : Int), sd, ss⟩ s2.cell s2.dir s2.slope HZ5.out
      have hxy := HXY.out
      have HB6 : Hid (Below w.heap.size w w6) := by
        rw [Hid, ← hw6]
        exact ((HB5.out.setCell (p := ⟨Y2, 0, none⟩) (by simp only; omega) _).setCell (p := ⟨Y2, 1, none⟩) (by simp only; omega) _).setCell (p := ⟨Y2, 2, none⟩) (by simp only; omega) _
      have HO6 : Hid (BoxD w.heap.size g w6) := ⟨(hh _ (by omega)).trans HO5.out.own, HGI.out.below HB6.out⟩
      have HOWN6 : Hid (OwnsL w6 (w.heap.size + 1) 2 1 i64cells v' (ys ++ [(e : Int)])) := HOWN5.out.kept (fun b hb => hh b (HVY.out b hb))
      have HW6 := Lib.hid hw6
      clear hw6 hh hxy
      go_wp2
      rw [HW6.out]
      go_roundg (ht g.val e).toNat
      case measure => rw [HGK.out]; exact HLT.out
      case rel => exact ⟨e, Y2, v', _, s2, f2, rfl, rfl, rfl, rfl, HST2.out, HNW.out, HXY.out, HZ6.out, HO6.out, HOWN6.out, HVY.out, HB6.out⟩
set_option maxRecDepth 100000 in
set_option maxHeartbeats 1000000 in
theorem descentOf_ok (g : GridR) (c : Nat) (w : World) (hgi : g.In w) (hgb : gridB g.val = true) (hc : c < g.heightsN) :
    Calls Tryz.prog 14 #[.agg #[.int .i64 g.rows, .int .i64 g.columns, .int .i64 g.size, .slice g.heightsA g.heightsN g.heightsC], .int .i64 c] w (fun e w' => ∃ (v : Value) (ys : List Int) (d : Nat), e = .returned (.tuple #[v, .int .i64 0]) ∧ WayTo g.val c d ys ∧ (steepT g.val d).2 = false ∧ OwnsL w' w.heap.size 2 1 i64cells v ys ∧ Below w.heap.size w w') := by
  have hB : Below w.heap.size w (w.alloc (.cells #[.int .i64 g.rows, .int .i64 g.columns, .int .i64 g.size, .slice g.heightsA g.heightsN g.heightsC] 26)) := (Below.refl _ _).alloc (Nat.le_refl _) _
  have HO0 : Hid (BoxD w.heap.size g (w.alloc (.cells #[.int .i64 g.rows, .int .i64 g.columns, .int .i64 g.size, .slice g.heightsA g.heightsN g.heightsC] 26))) := ⟨Own.new w 26 #[.int .i64 g.rows, .int .i64 g.columns, .int .i64 g.size, .slice g.heightsA g.heightsN g.heightsC], hgi.below hB⟩
  have HB0 := Lib.hid hB
  have HGl : Hid (g.val.heights.length = g.heightsN) := hgi.1.len
  have HGB := Lib.hid hgb
  have HCC : Hid (cellC g.val [(c : Int)] = 0) := by
    rw [Hid]; unfold cellC
    rw [if_neg (by rw [HGB.out]; simp), if_neg (by rw [HGl.out]; simp [inB]; omega)]
  have hgn := hgi.1.le
  clear hgi hB hgb
  go_enter Tryz.func14, Tryz.ntmps14
  go_wp2_with fail
  obtain ⟨w0, hw0⟩ : ∃ w0, (w.alloc (.cells #[.int .i64 g.rows, .int .i64 g.columns, .int .i64 g.size, .slice g.heightsA g.heightsN g.heightsC] 26)).alloc (.cells #[.int .i64 c] 2) = w0 := ⟨_, rfl⟩
  have hBq : Below (w.alloc (.cells #[.int .i64 g.rows, .int .i64 g.columns, .int .i64 g.size, .slice g.heightsA g.heightsN g.heightsC] 26)).heap.size (w.alloc (.cells #[.int .i64 g.rows, .int .i64 g.columns, .int .i64 g.size, .slice g.heightsA g.heightsN g.heightsC] 26)) w0 := by rw [← hw0]; exact (Below.refl _ _).alloc (Nat.le_refl _) _
  have hcs : SliceOf w0 1 i64cells (some ⟨w.heap.size + 1, 0, none⟩) 1 [(c : Int)] := by
    have h := sliceOf_new (w.alloc (.cells #[.int .i64 g.rows, .int .i64 g.columns, .int .i64 g.size, .slice g.heightsA g.heightsN g.heightsC] 26)) 2 [(c : Int)] (by simp)
    rw [show (w.alloc (.cells #[.int .i64 g.rows, .int .i64 g.columns, .int .i64 g.size, .slice g.heightsA g.heightsN g.heightsC] 26)).heap.size = w.heap.size + 1 by simp] at h
    rw [← hw0]
    exact h
  rw [hw0]
  have HO1 := Lib.hid (HO0.out.grow hBq)
  have HB1 := Lib.hid (HB0.out.trans (hBq.mono HB0.out.size))
  clear hBq hw0
  refine (gridCode_any g _ 1 1 [(c : Int)] _ HO1.out.gi hcs).mono ?_
  rintro e w1 ⟨rfl, hb1⟩
  rw [HCC.out]
  have HO := Lib.hid (HO1.out.grow hb1)
  have HB := Lib.hid (HB1.out.trans (hb1.mono HB1.out.size))
  clear hb1 hcs
  obtain ⟨y0, y1, y2, y3, ly⟩ := HO.out.cells
  go_wp2_with fail
  clear y0 y1 y2 y3 ly
  refine (descent_ok g c w1 HO.out.gi HGB.out hc).mono ?_
  rintro e w2 ⟨v, ys, d, rfl, hwt, hsf, hown, hb2⟩
  have HWT := Lib.hid hwt
  have HSF := Lib.hid hsf
  have HOWN := Lib.hid (hown.rebase HB.out.size)
  have HB2 := Lib.hid (HB.out.trans (hb2.mono HB.out.size))
  clear hwt hsf hown hb2
  go_wp2
  go_ret2
  exact ⟨v, ys, d, rfl, HWT.out, HSF.out, HOWN.out, HB2.out⟩

end Go.Proofs.YtmldijckjenbcaaGreatDoor
