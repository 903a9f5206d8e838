/- The steepest step of the program, where the grid and the cells are valid. -/
import Derived.Test.YtmldijckjenbcaaGreatDoorTerr
import Derived.Test.YtmldijckjenbcaaGreatDoorPush2
import Derived.Deep.RegionHeld3
import Derived.BigQuiet
namespace Go.Proofs.YtmldijckjenbcaaGreatDoor
open Go.RowKit

theorem ht_cell {w : World} {g : GridR} (h : g.In w) (hb : gridB g.val = true) {a o : Nat} (hA : g.heightsA = some ⟨a, o, none⟩) {i : Nat} (hi : i < g.heightsN) : w.cell? ⟨a, o + i, none⟩ = some (.int .i64 (ht g.val i)) ∧ a < w.heap.size := by
  obtain ⟨b', o', hA', hlt, hc, _⟩ := hts_at h hb hi
  rw [hA] at hA'
  injection hA' with hA'
  injection hA' with e1 e2 _
  subst e1 e2
  exact ⟨hc, hlt⟩
theorem take_snocT {xs : List Stp} {k : Nat} {x : Stp} (h : xs[k]? = some x) : xs.take (k + 1) = xs.take k ++ [x] := by
  rw [List.take_succ_eq_append_getElem (List.getElem?_eq_some_iff.1 h).1, (List.getElem?_eq_some_iff.1 h).2]
/-- What the search for the steepest step keeps. -/
structure SteepAt (w : World) (g : GridR) (c n cc : Nat) (A : Option Addr) (L : List Stp) (bs : Stp) (wr : World) : Prop where
  below : Below w.heap.size w wr
  box : BoxD w.heap.size g wr
  res : Own wr (w.heap.size + 1) 56 #[.int .i64 0, .int .i64 0, .int .i64 0]
  best : Own wr (w.heap.size + 1 + 1) 56 bs.cells.toArray
  list : OwnsL wr (w.heap.size + 1 + 1 + 1) 56 3 Stp.cells (.slice A n cc) L
theorem SteepAt.grow {w : World} {g : GridR} {c n cc : Nat} {A : Option Addr} {L : List Stp} {bs : Stp} {wr w' : World} (h : SteepAt w g c n cc A L bs wr) (hb : Below wr.heap.size wr w') : SteepAt w g c n cc A L bs w' :=
  ⟨h.below.trans (hb.mono h.below.size), h.box.grow hb, h.res.below' hb, h.best.below' hb, h.list.below' hb⟩
theorem SteepAt.put {w : World} {g : GridR} {c n cc : Nat} {A : Option Addr} {L : List Stp} {bs : Stp} {wr : World} (hgi : g.In w) (h : SteepAt w g c n cc A L bs wr) (a b d : Int) : SteepAt w g c n cc A L ⟨a, b, d⟩ (((wr.setCell ⟨w.heap.size + 1 + 1, 0, none⟩ (.int .i64 a)).setCell ⟨w.heap.size + 1 + 1, 1, none⟩ (.int .i64 b)).setCell ⟨w.heap.size + 1 + 1, 2, none⟩ (.int .i64 d)) := by
  have hb : Below w.heap.size w (((wr.setCell ⟨w.heap.size + 1 + 1, 0, none⟩ (.int .i64 a)).setCell ⟨w.heap.size + 1 + 1, 1, none⟩ (.int .i64 b)).setCell ⟨w.heap.size + 1 + 1, 2, none⟩ (.int .i64 d)) :=
    ((h.below.setCell (p := ⟨w.heap.size + 1 + 1, 0, none⟩) (by simp only; omega) _).setCell (p := ⟨w.heap.size + 1 + 1, 1, none⟩) (by simp only; omega) _).setCell (p := ⟨w.heap.size + 1 + 1, 2, none⟩) (by simp only; omega) _
  refine ⟨hb, ⟨?_, hgi.below hb⟩, ?_, Own.stp3 bs a b d h.best, ?_⟩
  · exact (stp3_heap wr (w.heap.size + 1 + 1) _ _ _ _ (by omega)).trans h.box.own
  · exact (stp3_heap wr (w.heap.size + 1 + 1) _ _ _ _ (by omega)).trans h.res
  · exact h.list.kept (fun k hk => stp3_heap wr (w.heap.size + 1 + 1) _ _ _ k (by have := (h.list.lt k hk).1; omega))
set_option maxRecDepth 100000 in
set_option maxHeartbeats 2000000 in
theorem steepest_any (g : GridR) (c : Nat) (w : World) (hgi : g.In w) (hgb : gridB g.val = true) (hc : c < g.heightsN) :
    Calls Tryz.prog 36 #[.agg #[.int .i64 g.rows, .int .i64 g.columns, .int .i64 g.size, .slice g.heightsA g.heightsN g.heightsC], .int .i64 c] w (Ret (.tuple #[.agg #[.int .i64 (steepT g.val c).1.cell, .int .i64 (steepT g.val c).1.dir, .int .i64 (steepT g.val c).1.slope], .bool (steepT g.val c).2]) w) := by
  obtain ⟨w0, hw0⟩ : ∃ w0, ((w.alloc (.cells #[.int .i64 g.rows, .int .i64 g.columns, .int .i64 g.size, .slice g.heightsA g.heightsN g.heightsC] 26)).alloc (.cells #[.int .i64 0, .int .i64 0, .int .i64 0] 56)).alloc (.cells #[.int .i64 0, .int .i64 0, .int .i64 0] 56) = w0 := ⟨_, rfl⟩
  have h1 : Below w.heap.size w (w.alloc (.cells #[.int .i64 g.rows, .int .i64 g.columns, .int .i64 g.size, .slice g.heightsA g.heightsN g.heightsC] 26)) := (Below.refl _ _).alloc (Nat.le_refl _) _
  have h2 := h1.alloc h1.size (.cells #[.int .i64 0, .int .i64 0, .int .i64 0] 56)
  have hB : Below w.heap.size w w0 := by rw [← hw0]; exact h2.alloc h2.size _
  have o1 : Own w0 w.heap.size 26 #[.int .i64 g.rows, .int .i64 g.columns, .int .i64 g.size, .slice g.heightsA g.heightsN g.heightsC] := by
    rw [← hw0]
    exact ((Own.new w 26 #[.int .i64 g.rows, .int .i64 g.columns, .int .i64 g.size, .slice g.heightsA g.heightsN g.heightsC]).below' ((Below.refl _ _).alloc (Nat.le_refl _) _)).below' ((Below.refl _ _).alloc (Nat.le_refl _) _)
  have o2 : Own w0 (w.heap.size + 1) 56 #[.int .i64 0, .int .i64 0, .int .i64 0] := by
    have h := Own.new (w.alloc (.cells #[.int .i64 g.rows, .int .i64 g.columns, .int .i64 g.size, .slice g.heightsA g.heightsN g.heightsC] 26)) 56 #[.int .i64 0, .int .i64 0, .int .i64 0]
    rw [show (w.alloc (.cells #[.int .i64 g.rows, .int .i64 g.columns, .int .i64 g.size, .slice g.heightsA g.heightsN g.heightsC] 26)).heap.size = w.heap.size + 1 by simp] at h
    rw [← hw0]
    exact h.below' ((Below.refl _ _).alloc (Nat.le_refl _) _)
  have o3 : Own w0 (w.heap.size + 1 + 1) 56 (Stp.cells ⟨0, 0, 0⟩).toArray := by
    have h := Own.new ((w.alloc (.cells #[.int .i64 g.rows, .int .i64 g.columns, .int .i64 g.size, .slice g.heightsA g.heightsN g.heightsC] 26)).alloc (.cells #[.int .i64 0, .int .i64 0, .int .i64 0] 56)) 56 #[.int .i64 0, .int .i64 0, .int .i64 0]
    rw [show ((w.alloc (.cells #[.int .i64 g.rows, .int .i64 g.columns, .int .i64 g.size, .slice g.heightsA g.heightsN g.heightsC] 26)).alloc (.cells #[.int .i64 0, .int .i64 0, .int .i64 0] 56)).heap.size = w.heap.size + 1 + 1 by simp] at h
    rw [← hw0]
    exact h
  have hsz : w0.heap.size = w.heap.size + 1 + 1 + 1 := by rw [← hw0]; simp
  have HSZ := Lib.hid hsz
  have HB := Lib.hid hB
  have HO : Hid (BoxD w.heap.size g w0) := ⟨o1, hgi.below hB⟩
  have H2 := Lib.hid o2
  have H3 := Lib.hid o3
  have HGI := Lib.hid hgi
  have HGB := Lib.hid hgb
  have HGl : Hid (g.val.heights.length = g.heightsN) := hgi.1.len
  have HC : Hid (c < g.val.heights.length) := by rw [Hid, HGl.out]; exact hc
  obtain ⟨ga, go, hgA, _⟩ := hts_at hgi hgb (show 0 < g.heightsN by omega)
  have HGA := Lib.hid hgA
  have hgn := hgi.1.le
  obtain ⟨y0, y1, y2, y3, ly⟩ := HO.out.cells
  clear h1 h2 hB o1 o2 o3 hsz hgi hgb hgA
  go_enter Tryz.func36, Tryz.ntmps36
  go_wp2_with fail
  try rw [hw0]
  clear hw0 y0 y1 y2 y3 ly
  refine (next_any g c w0 HO.out.gi HGB.out hc).mono ?_
  rintro e w2 ⟨v, rfl, hown, hb2⟩
  obtain ⟨L, hL⟩ : ∃ L, nextT g.val c 8 = L := ⟨_, rfl⟩
  have HL := Lib.hid hL
  rw [hL] at hown
  rw [HSZ.out] at hown
  obtain ⟨A, cc, rfl, _, _, _⟩ := hown.slice Stp.cells_len
  obtain ⟨n, hn⟩ : ∃ n, L.length = n := ⟨_, rfl⟩
  have HLN := Lib.hid hn
  rw [hn] at hown ⊢
  have hnl := (hown.sl Stp.cells_len).le
  have HST : Hid (SteepAt w g c n cc A L ⟨0, 0, 0⟩ w2) := ⟨HB.out.trans (hb2.mono HB.out.size), HO.out.grow hb2, H2.out.below' hb2, H3.out.below' hb2, hown⟩
  clear hown hb2 hL hn
  go_wp2
  go_loopg [14, 7] n (fun gk i fd wr => ∃ (k : Nat) (bs : Stp) (f : Bool), k ≤ n ∧ gk = n - k ∧ i = .int .i64 k ∧ fd = .bool f ∧ steepL g.val c (L.take k) = (bs, f) ∧ SteepAt w g c n cc A L bs wr)
  case atStart => exact ⟨0, ⟨0, 0, 0⟩, false, Nat.zero_le _, rfl, rfl, rfl, rfl, HST.out⟩
  case round =>
    obtain ⟨k, bs, f, hk, hgk, rfl, rfl, hst, hat⟩ := hrel
    have Hgk := Lib.hid hgk
    have HS := Lib.hid hst
    have HAT := Lib.hid hat
    clear hgk hst hat
    by_cases hlt : k < n
    · obtain ⟨b1, o1, z, rfl, hb1, hzk, x0, x1, x2⟩ := stp_at (HAT.out.list.sl Stp.cells_len) hlt
      have HZK := Lib.hid hzk
      obtain ⟨d, hd⟩ := stepOf HGB.out HC.out (x := z) (by rw [HL.out]; exact List.mem_of_getElem? hzk)
      have hdN : d < g.heightsN := by rw [← HGl.out]; exact hd.lt
      have HSN : Hid (steepL g.val c (L.take (k + 1)) = stepF g.val c (bs, f) z) := by rw [Hid, take_snocT hzk, steepL_snoc, HS.out]
      obtain ⟨zc, zd, zs⟩ := z
      have hzc : zc = (d : Int) := hd.cell
      subst hzc
      simp only at x0 x1 x2
      obtain ⟨p, hp⟩ : ∃ p, ht g.val d = p := ⟨_, rfl⟩
      obtain ⟨q, hq⟩ : ∃ q, ht g.val c = q := ⟨_, rfl⟩
      have HP := Lib.hid hp
      have HQ := Lib.hid hq
      obtain ⟨w3, hw3⟩ : ∃ w3, wr.alloc (.cells #[.int .i64 d, .int .i64 zd, .int .i64 zs] 56) = w3 := ⟨_, rfl⟩
      obtain ⟨Z, hZ⟩ : ∃ Z, wr.heap.size = Z := ⟨_, rfl⟩
      have HZ3 : Hid (Own w3 Z 56 #[.int .i64 d, .int .i64 zd, .int .i64 zs]) := by rw [Hid, ← hw3, ← hZ]; exact Own.new _ _ _
      have hbw3 : Below wr.heap.size wr w3 := by rw [← hw3]; exact (Below.refl _ _).alloc (Nat.le_refl _) _
      have HAT3 := Lib.hid (HAT.out.grow hbw3)
      have HW3 := Lib.hid hw3
      have HZZ := Lib.hid hZ
      have hgi3 := HAT3.out.box.gi
      obtain ⟨e1, e2⟩ := ht_cell hgi3 HGB.out HGA.out hdN
      obtain ⟨e3, _⟩ := ht_cell hgi3 HGB.out HGA.out hc
      rw [hp] at e1
      rw [hq] at e3
      have E1 := Lib.hid e1
      have E3 := Lib.hid e3
      clear hzk hbw3 hp hq hw3 hZ hgi3 e1 e3 hd
      go_wp2_with fail
      rw [HW3.out, HZZ.out]
      clear x0 x1 x2
      have e1 := E1.out
      have e3 := E3.out
      have z0 := HZ3.out.cell 0
      have z1 := HZ3.out.cell 1
      have z2 := HZ3.out.cell 2
      simp at z0 z1 z2
      have lz := HZ3.out.lt
      obtain ⟨y0, y1, y2, y3, ly⟩ := HAT3.out.box.cells
      rw [HGA.out] at y3
      have m2 : w3.cell? ⟨w.heap.size + 1 + 1, 2, none⟩ = some (.int .i64 bs.slope) := HAT3.out.best.cell 2
      have lm : w.heap.size + 1 + 1 < w3.heap.size := HAT3.out.best.lt
      have hsub := fun (v : Sub w3) b o (h : b < w3.heap.size) => v.cell b o h
      obtain ⟨bl, hbl⟩ : ∃ bl, bs.slope = bl := ⟨_, rfl⟩
      have HBL := Lib.hid hbl
      rw [hbl] at m2
      clear hbl
      by_cases hlow : p < q
      · cases f
        · have HF : Hid (stepF g.val c (bs, false) ⟨(d : Int), zd, zs⟩ = (⟨(d : Int), zd, zs⟩, true)) := by
            rw [Hid]; unfold stepF; exact if_pos ⟨by rw [HP.out, HQ.out]; exact hlow, .inl rfl⟩
          refine wp_region_sub (by kernel_rfl) (by kernel_rfl) ?_
          repeat (go_big_quiet_step (fail))
          refine wpQuiet_nil ?_
          intro wg hg
          have HATG := Lib.hid (HAT3.out.grow hg)
          have HZG := Lib.hid (HZ3.out.below' hg)
          clear hsub hg y0 y1 y2 y3 ly z0 z1 z2 lz e1 e2 e3 m2 lm
          have z0 := HZG.out.cell 0
          have z1 := HZG.out.cell 1
          have z2 := HZG.out.cell 2
          simp at z0 z1 z2
          have m0 : wg.cell? ⟨w.heap.size + 1 + 1, 0, none⟩ = some (.int .i64 bs.cell) := HATG.out.best.cell 0
          have m1 : wg.cell? ⟨w.heap.size + 1 + 1, 1, none⟩ = some (.int .i64 bs.dir) := HATG.out.best.cell 1
          have m2 : wg.cell? ⟨w.heap.size + 1 + 1, 2, none⟩ = some (.int .i64 bs.slope) := HATG.out.best.cell 2
          have fz := HATG.out.best.frozen
          have lm := HATG.out.best.lt
          obtain ⟨w5, hw5⟩ : ∃ w5, (((wg.setCell ⟨w.heap.size + 1 + 1, 0, none⟩ (.int .i64 d)).setCell ⟨w.heap.size + 1 + 1, 1, none⟩ (.int .i64 zd)).setCell ⟨w.heap.size + 1 + 1, 2, none⟩ (.int .i64 zs)) = w5 := ⟨_, rfl⟩
          have HAT5 : Hid (SteepAt w g c n cc (some ⟨b1, o1, none⟩) L ⟨(d : Int), zd, zs⟩ w5) := by rw [Hid, ← hw5]; exact HATG.out.put HGI.out _ _ _
          have HW5 := Lib.hid hw5
          clear hw5
          go_wp2
          rw [HW5.out]
          go_roundg (n - (k + 1))
          case measure => have := Hgk.out; omega
          case rel => exact ⟨k + 1, ⟨(d : Int), zd, zs⟩, true, by omega, rfl, by go_num, rfl, by rw [HSN.out]; exact HF.out, HAT5.out⟩
        · by_cases hsl : bl < zs
          · have HF : Hid (stepF g.val c (bs, true) ⟨(d : Int), zd, zs⟩ = (⟨(d : Int), zd, zs⟩, true)) := by
              rw [Hid]; unfold stepF; exact if_pos ⟨by rw [HP.out, HQ.out]; exact hlow, .inr (by rw [HBL.out]; exact hsl)⟩
            refine wp_region_sub (by kernel_rfl) (by kernel_rfl) ?_
            repeat (go_big_quiet_step (fail))
            refine wpQuiet_nil ?_
            intro wg hg
            have HATG := Lib.hid (HAT3.out.grow hg)
            have HZG := Lib.hid (HZ3.out.below' hg)
            clear hsub hg y0 y1 y2 y3 ly z0 z1 z2 lz e1 e2 e3 m2 lm
            have z0 := HZG.out.cell 0
            have z1 := HZG.out.cell 1
            have z2 := HZG.out.cell 2
            simp at z0 z1 z2
            have m0 : wg.cell? ⟨w.heap.size + 1 + 1, 0, none⟩ = some (.int .i64 bs.cell) := HATG.out.best.cell 0
            have m1 : wg.cell? ⟨w.heap.size + 1 + 1, 1, none⟩ = some (.int .i64 bs.dir) := HATG.out.best.cell 1
            have m2 : wg.cell? ⟨w.heap.size + 1 + 1, 2, none⟩ = some (.int .i64 bs.slope) := HATG.out.best.cell 2
            have fz := HATG.out.best.frozen
            have lm := HATG.out.best.lt
            obtain ⟨w5, hw5⟩ : ∃ w5, (((wg.setCell ⟨w.heap.size + 1 + 1, 0, none⟩ (.int .i64 d)).setCell ⟨w.heap.size + 1 + 1, 1, none⟩ (.int .i64 zd)).setCell ⟨w.heap.size + 1 + 1, 2, none⟩ (.int .i64 zs)) = w5 := ⟨_, rfl⟩
            have HAT5 : Hid (SteepAt w g c n cc (some ⟨b1, o1, none⟩) L ⟨(d : Int), zd, zs⟩ w5) := by rw [Hid, ← hw5]; exact HATG.out.put HGI.out _ _ _
            have HW5 := Lib.hid hw5
            clear hw5
            go_wp2
            rw [HW5.out]
            go_roundg (n - (k + 1))
            case measure => have := Hgk.out; omega
            case rel => exact ⟨k + 1, ⟨(d : Int), zd, zs⟩, true, by omega, rfl, by go_num, rfl, by rw [HSN.out]; exact HF.out, HAT5.out⟩
          · have HF : Hid (stepF g.val c (bs, true) ⟨(d : Int), zd, zs⟩ = (bs, true)) := by
              rw [Hid]; unfold stepF; exact if_neg (fun h => by
                rcases h.2 with h | h
                · cases h
                · rw [HBL.out] at h; exact hsl h)
            refine wp_region_sub (by kernel_rfl) (by kernel_rfl) ?_
            repeat (go_big_quiet_step (fail))
            refine wpQuiet_nil ?_
            intro wg hg
            have HATG := Lib.hid (HAT3.out.grow hg)
            have HZG := Lib.hid (HZ3.out.below' hg)
            clear hsub hg y0 y1 y2 y3 ly z0 z1 z2 lz e1 e2 e3 m2 lm
            go_wp2
            go_roundg (n - (k + 1))
            case measure => have := Hgk.out; omega
            case rel => exact ⟨k + 1, bs, _, by omega, rfl, by go_num, rfl, by rw [HSN.out]; exact HF.out, HATG.out⟩
      · have HF : Hid (stepF g.val c (bs, f) ⟨(d : Int), zd, zs⟩ = (bs, f)) := by
          rw [Hid]; unfold stepF; exact if_neg (fun h => hlow (by have h1 := h.1; rw [HP.out, HQ.out] at h1; exact h1))
        refine wp_region_sub (by kernel_rfl) (by kernel_rfl) ?_
        repeat (go_big_quiet_step (fail))
        refine wpQuiet_nil ?_
        intro wg hg
        have HATG := Lib.hid (HAT3.out.grow hg)
        have HZG := Lib.hid (HZ3.out.below' hg)
        clear hsub hg y0 y1 y2 y3 ly z0 z1 z2 lz e1 e2 e3 m2 lm
        go_wp2
        go_roundg (n - (k + 1))
        case measure => have := Hgk.out; omega
        case rel => exact ⟨k + 1, bs, _, by omega, rfl, by go_num, rfl, by rw [HSN.out]; exact HF.out, HATG.out⟩
    · have hkn : k = n := by omega
      have HFIN : Hid (steepT g.val c = (bs, f)) := by
        have h := HS.out
        rw [List.take_of_length_le (by rw [HLN.out]; omega), ← HL.out] at h
        exact h
      obtain ⟨uf, huf⟩ : ∃ uf, ((wr.setCell ⟨w.heap.size + 1, 0, none⟩ (.int .i64 bs.cell)).setCell ⟨w.heap.size + 1, 1, none⟩ (.int .i64 bs.dir)).setCell ⟨w.heap.size + 1, 2, none⟩ (.int .i64 bs.slope) = uf := ⟨_, rfl⟩
      have HUO : Hid (Own uf (w.heap.size + 1) 56 (Stp.cells ⟨bs.cell, bs.dir, bs.slope⟩).toArray) := by rw [Hid, ← huf]; exact Own.stp3 ⟨0, 0, 0⟩ _ _ _ HAT.out.res
      have HUB : Hid (Below w.heap.size w uf) := by
        rw [Hid, ← huf]
        exact ((HAT.out.below.setCell (p := ⟨w.heap.size + 1, 0, none⟩) (by simp only; omega) _).setCell (p := ⟨w.heap.size + 1, 1, none⟩) (by simp only; omega) _).setCell (p := ⟨w.heap.size + 1, 2, none⟩) (by simp only; omega) _
      have HUF := Lib.hid huf
      clear huf
      have m0 : wr.cell? ⟨w.heap.size + 1 + 1, 0, none⟩ = some (.int .i64 bs.cell) := HAT.out.best.cell 0
      have m1 : wr.cell? ⟨w.heap.size + 1 + 1, 1, none⟩ = some (.int .i64 bs.dir) := HAT.out.best.cell 1
      have m2 : wr.cell? ⟨w.heap.size + 1 + 1, 2, none⟩ = some (.int .i64 bs.slope) := HAT.out.best.cell 2
      have r0 := HAT.out.res.cell 0
      have r1 := HAT.out.res.cell 1
      have r2 := HAT.out.res.cell 2
      simp at r0 r1 r2
      have fz := HAT.out.res.frozen
      have lr := HAT.out.res.lt
      go_wp2
      rw [HUF.out]
      have f0 : uf.cell? ⟨w.heap.size + 1, 0, none⟩ = some (.int .i64 bs.cell) := HUO.out.cell 0
      have f1 : uf.cell? ⟨w.heap.size + 1, 1, none⟩ = some (.int .i64 bs.dir) := HUO.out.cell 1
      have f2 : uf.cell? ⟨w.heap.size + 1, 2, none⟩ = some (.int .i64 bs.slope) := HUO.out.cell 2
      exact bodyPost_ret (v := .tuple #[.agg #[.int .i64 bs.cell, .int .i64 bs.dir, .int .i64 bs.slope], .bool f]) (by simp [results, Tryz.results36, go_sem, f0, f1, f2]) rfl (Ret.mk (by rw [HFIN.out]) HUB.out)

end Go.Proofs.YtmldijckjenbcaaGreatDoor
