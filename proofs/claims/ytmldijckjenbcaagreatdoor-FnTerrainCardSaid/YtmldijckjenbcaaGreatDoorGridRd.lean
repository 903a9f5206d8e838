/- A grid's text is read as the grid. -/
import Derived.Test.YtmldijckjenbcaaGreatDoorGridTx
import Derived.Test.YtmldijckjenbcaaGreatDoorPush2
import Derived.Test.YtmldijckjenbcaaGreatDoorMText
import Derived.Test.YtmldijckjenbcaaGreatDoorBoxK
import Derived.Deep.RegionHeld3
import Derived.BigQuiet
namespace Go.Proofs.YtmldijckjenbcaaGreatDoor
open Go.RowKit

theorem text_no58 (xs : List Int) : (58 : UInt8) ∉ (textList xs).data.toList := fun h => by
  have hi : ∀ n : Int, (58 : UInt8) ∉ Lib.itoa n := fun n hm => by
    rcases itoa_mem hm with e | e
    · exact absurd e (by decide)
    · exact absurd e.2 (by decide)
  have hj : ∀ (ys : List Int), (58 : UInt8) ∉ joinE 44 (ys.map dec) := fun ys => by
    induction ys with
    | nil => simp [joinE]
    | cons y ys ih =>
      intro hm
      rw [List.map_cons, joinE_cons, dec_list] at hm
      rcases List.mem_append.1 hm with hm | hm
      · exact hi y hm
      · rcases List.mem_cons.1 hm with hm | hm
        · exact absurd hm (by decide)
        · exact ih hm
  rw [textList] at h
  split at h
  · revert h; decide
  · rename_i hne
    rcases List.eq_nil_or_concat xs with e | ⟨ys, z, e⟩
    · exact hne e
    · rw [List.concat_eq_append] at e
      subst e
      rw [(pieces_list ys z).all, dec_list] at h
      rcases List.mem_append.1 h with h | h
      · exact hj ys h
      · exact hi z h
theorem grid_cut (g : Grid) : Lib.cut (gridText g).data.toList [58] = ((textList [g.rows, g.columns, g.size]).data.toList, (textList g.heights).data.toList, true) := by
  have e : (gridText g).data.toList = (textList [g.rows, g.columns, g.size]).data.toList ++ 58 :: (textList g.heights).data.toList := by
    unfold gridText
    simp [ByteArray.data_append]
  rw [e]
  exact cut_hit _ _ (text_no58 _)
theorem reads_text {xs : List Int} {r : Option (List Int)} (hv : ValidList xs) (h : ReadsList (textList xs) r) : r = some xs := by
  cases r with
  | none => exact absurd rfl (h.no rfl xs hv)
  | some ys =>
    obtain ⟨h1, h2⟩ := h.yes ys rfl
    rw [textList_inj hv h1 h2]
theorem text_back (s : ByteArray) : (⟨s.data.toList.toArray⟩ : ByteArray) = s := by simp
theorem cutG_any (s : ByteArray) (c : UInt8) (w : World) (hs : s.size < 4294967281) (ht : LibAt w.heap.size w) : Calls Tryz.prog 22 #[.string s, .string ⟨#[c]⟩] w (fun e w' => e = .returned (.tuple #[.string ⟨(Lib.cut s.data.toList [c]).1.toArray⟩, .string ⟨(Lib.cut s.data.toList [c]).2.1.toArray⟩, .bool (Lib.cut s.data.toList [c]).2.2]) ∧ Below w.heap.size w w') := by
  obtain ⟨m, hm⟩ := ht.max w (Below.refl _ _)
  refine (Tryz.strings_Cut s ⟨#[c]⟩ m w hs hm).mono ?_
  rintro e w' ⟨rfl, n, rfl⟩
  exact ⟨rfl, below_drewN (Below.refl _ _) n⟩
set_option maxRecDepth 100000 in
set_option maxHeartbeats 1000000 in
theorem readNumbers_ok (xs : List Int) (n : Nat) (w : World) (hv : ValidList xs) (hn : xs.length = n) (hs : (textList xs).size ≤ 1048576) (ht : LibAt w.heap.size w) : Calls Tryz.prog 23 #[.string (textList xs), .int .i64 n] w (fun e w' => ∃ v, e = .returned (.tuple #[v, .bool true]) ∧ OwnsL w' w.heap.size 2 1 i64cells v xs ∧ Below w.heap.size w w') := by
  have HV := Lib.hid hv
  have HN := Lib.hid hn
  clear hv hn
  go_enter Tryz.func23, Tryz.ntmps23
  go_wp2_with fail
  refine (implReadList_any (textList xs) w hs ht).mono ?_
  rintro e w1 ⟨v, r, rfl, hl⟩
  obtain rfl := reads_text HV.out hl.reads
  have HO := Lib.hid (hl.own xs rfl)
  have HB := Lib.hid hl.below
  obtain ⟨A, c, rfl, hc1, hc2, _⟩ := HO.out.slice i64cells_len
  rw [HN.out] at hc1 HO ⊢
  have hq : ((n : Int) != (n : Int)) = false := by simp
  clear hl
  go_wp2
  go_ret2
  exact ⟨_, rfl, HO.out, HB.out⟩
theorem put4_heap (w : World) (bb : Nat) (u v x y : Value) (k : Nat) (h : k ≠ bb) : ((((w.setCell ⟨bb, 0, none⟩ u).setCell ⟨bb, 1, none⟩ v).setCell ⟨bb, 2, none⟩ x).setCell ⟨bb, 3, none⟩ y).heap[k]? = w.heap[k]? :=
  (Below.heap_setCell _ ⟨bb, 3, none⟩ y k h).trans ((Below.heap_setCell _ ⟨bb, 2, none⟩ x k h).trans ((Below.heap_setCell _ ⟨bb, 1, none⟩ v k h).trans (Below.heap_setCell _ ⟨bb, 0, none⟩ u k h)))
theorem gridB_valid {g : Grid} (hg : gridB g = true) : ValidList [g.rows, g.columns, g.size] ∧ ValidList g.heights := by
  obtain ⟨p1, p2, p3, p4, p5⟩ := gridB_parts hg
  have hm := (mul_i64 p1 p2).2
  exact ⟨⟨by simp, fun y hy => by simp at hy; rcases hy with rfl | rfl | rfl <;> omega⟩, ⟨by omega, fun y hy => by have := p5 y hy; omega⟩⟩
theorem put4 {T : TypeId} {R : Nat} {w v : World} {p q r s : Value} (h : Own v R T #[p, q, r, s]) (a b c d : Value) (hb : Below w.heap.size w v) (hR : w.heap.size ≤ R) : Own ((((v.setCell ⟨R, 0, none⟩ a).setCell ⟨R, 1, none⟩ b).setCell ⟨R, 2, none⟩ c).setCell ⟨R, 3, none⟩ d) R T #[a, b, c, d] ∧ Below w.heap.size w ((((v.setCell ⟨R, 0, none⟩ a).setCell ⟨R, 1, none⟩ b).setCell ⟨R, 2, none⟩ c).setCell ⟨R, 3, none⟩ d) :=
  ⟨by simpa using ((((h.put 0 a).put 1 b).put 2 c).put 3 d), (((hb.setCell (p := ⟨R, 0, none⟩) hR _).setCell (p := ⟨R, 1, none⟩) hR _).setCell (p := ⟨R, 2, none⟩) hR _).setCell (p := ⟨R, 3, none⟩) hR _⟩
set_option maxRecDepth 100000 in
set_option maxHeartbeats 2000000 in
theorem implReadGrid_ok (g : Grid) (w : World) (hg : gridB g = true) (ht : LibAt w.heap.size w) : Calls Tryz.prog 6 #[.string (gridText g)] w (fun e w' => ∃ p : GridR, e = .returned (.tuple #[.agg #[.int .i64 p.rows, .int .i64 p.columns, .int .i64 p.size, .slice p.heightsA p.heightsN p.heightsC], .bool true]) ∧ p.val = g ∧ p.In w' ∧ Below w.heap.size w w') := by
  obtain ⟨R, hR⟩ : ∃ R, w.heap.size = R := ⟨_, rfl⟩
  obtain ⟨w0, hw0⟩ : ∃ w0, w.alloc (.cells #[.int .i64 0, .int .i64 0, .int .i64 0, .slice none 0 0] 26) = w0 := ⟨_, rfl⟩
  have hb0 : Below w.heap.size w w0 := by rw [← hw0]; exact (Below.refl _ _).alloc (Nat.le_refl _) _
  have HR0 : Hid (Own w0 R 26 #[.int .i64 0, .int .i64 0, .int .i64 0, .slice none 0 0]) := by rw [Hid, ← hw0, ← hR]; exact Own.new _ _ _
  have HB0 := Lib.hid hb0
  have HRW : Hid (w.heap.size ≤ R) := Nat.le_of_eq hR
  have HT0 := Lib.hid (ht.grow hb0)
  have HG := Lib.hid hg
  obtain ⟨hv1, hv2⟩ := gridB_valid hg
  have HV1 := Lib.hid hv1
  have HV2 := Lib.hid hv2
  have hz1 : (textList [g.rows, g.columns, g.size]).size ≤ 100 := by
    have h := textList_size (xs := [g.rows, g.columns, g.size]) (fun y hy => by have := hv1.2 y hy; unfold I64; omega)
    simp only [List.length_cons, List.length_nil] at h
    omega
  have hz2 : (textList g.heights).size ≤ 1500 := by
    have h := textList_size (xs := g.heights) (fun y hy => by have := hv2.2 y hy; unfold I64; omega)
    have := hv2.1
    omega
  have hzs : (gridText g).size ≤ 2000 := by
    have e1 : (⟨#[58]⟩ : ByteArray).size = 1 := rfl
    unfold gridText
    simp only [ByteArray.size_append, e1]
    omega
  have hcut := cutG_any (gridText g) 58 w0 (by omega) HT0.out
  rw [grid_cut, text_back, text_back] at hcut
  have HCUT := Lib.hid hcut
  obtain ⟨gr, hgr⟩ : ∃ z, g.rows = z := ⟨_, rfl⟩
  obtain ⟨gc, hgc⟩ : ∃ z, g.columns = z := ⟨_, rfl⟩
  obtain ⟨gs, hgs⟩ : ∃ z, g.size = z := ⟨_, rfl⟩
  have HGR := Lib.hid hgr
  have HGC := Lib.hid hgc
  have HGS := Lib.hid hgs
  clear hb0 hg ht hv1 hv2 hzs hcut hgr hgc hgs
  go_enter Tryz.func6, Tryz.ntmps6
  go_wp2_with fail
  try rw [hw0, hR]
  clear hw0 hR
  refine HCUT.out.mono ?_
  rintro e w1 ⟨rfl, hb1⟩
  have HT1 := Lib.hid (HT0.out.grow hb1)
  have HR1 := Lib.hid (HR0.out.below' hb1)
  have HB1 := Lib.hid (HB0.out.trans (hb1.mono HB0.out.size))
  clear hb1 HCUT
  go_wp2_with fail
  refine (readNumbers_ok [g.rows, g.columns, g.size] 3 w1 HV1.out rfl (by omega) HT1.out).mono ?_
  rintro e w2 ⟨v, rfl, ho2, hb2⟩
  obtain ⟨A, c, rfl, _, _, hsl⟩ := ho2.slice i64cells_len
  have hsl3 : SliceOf w2 1 i64cells A 3 [g.rows, g.columns, g.size] := hsl
  obtain ⟨nb, no, _, rfl, _, _⟩ := ints_at hsl3 (show 0 < 3 by decide)
  have HSL := Lib.hid hsl3
  have HT2 := Lib.hid (HT1.out.grow hb2)
  have HR2 := Lib.hid (HR1.out.below' hb2)
  have HB2 := Lib.hid (HB1.out.trans (hb2.mono HB1.out.size))
  clear hb2 ho2 hsl hsl3
  go_wp2_with fail
  refine (implReadList_any (textList g.heights) w2 (by omega) HT2.out).mono ?_
  rintro e w3 ⟨v, r, rfl, hl⟩
  obtain rfl := reads_text HV2.out hl.reads
  have hown := hl.own g.heights rfl
  obtain ⟨HA, hc, rfl, hl1, hl2, _⟩ := hown.slice i64cells_len
  obtain ⟨hn, hhn⟩ : ∃ hn, g.heights.length = hn := ⟨_, rfl⟩
  rw [hhn] at hown hl1 ⊢
  have HHN := Lib.hid hhn
  have HHS := Lib.hid hown
  have HRL : Hid (R < w2.heap.size) := HR2.out.lt
  have HSL3 := Lib.hid (HSL.out.below hl.below)
  have HT3 := Lib.hid (HT2.out.grow hl.below)
  have HR3 := Lib.hid (HR2.out.below' hl.below)
  have HB3 := Lib.hid (HB2.out.trans (hl.below.mono HB2.out.size))
  clear hl hown hhn
  obtain ⟨n0, hn0, c0, ln⟩ := intsD HSL3.out (k := 0) (by decide)
  obtain ⟨n1, hn1, c1, _⟩ := intsD HSL3.out (k := 1) (by decide)
  obtain ⟨n2, hn2, c2, _⟩ := intsD HSL3.out (k := 2) (by decide)
  simp at hn0 hn1 hn2
  rw [HGR.out] at hn0
  rw [HGC.out] at hn1
  rw [HGS.out] at hn2
  subst hn0 hn1 hn2
  simp only [Nat.add_zero] at c0
  obtain ⟨X, hX⟩ : ∃ X, w3.heap.size = X := ⟨_, rfl⟩
  obtain ⟨w4, hw4⟩ : ∃ w4, (w3.alloc (.cells #[.int .i64 gr, .int .i64 gc, .int .i64 gs, .slice HA hn hc] 26)).drew = w4 := ⟨_, rfl⟩
  have hb4 : Below w3.heap.size w3 w4 := by rw [← hw4]; exact ((Below.refl _ _).alloc (Nat.le_refl _) _).drew
  have HO4 : Hid (Own w4 X 26 #[.int .i64 gr, .int .i64 gc, .int .i64 gs, .slice HA hn hc]) := by rw [Hid, ← hw4, ← hX]; exact (Own.new _ _ _).below' (Below.refl _ _).drew
  have HH4 := Lib.hid (HHS.out.below' hb4)
  have HT4 := Lib.hid (HT3.out.grow hb4)
  have HR4 := Lib.hid (HR3.out.below' hb4)
  have HB4 := Lib.hid (HB3.out.trans (hb4.mono HB3.out.size))
  have HW4 := Lib.hid hw4
  have HXX := Lib.hid hX
  clear hw4 hX hb4
  go_wp2_with fail
  go_region
  rw [HW4.out, HXX.out]
  clear c0 c1 c2 ln
  have y0 := HO4.out.cell 0
  have y1 := HO4.out.cell 1
  have y2 := HO4.out.cell 2
  have y3 := HO4.out.cell 3
  have ly := HO4.out.lt
  simp at y0 y1 y2 y3
  have HV : Hid ((⟨gr, gc, gs, HA, hn, hc, g.heights⟩ : GridR).val = g) := by rw [Hid, ← HGR.out, ← HGC.out, ← HGS.out]; rfl
  have htx := implGridText_ok (⟨gr, gc, gs, HA, hn, hc, g.heights⟩ : GridR) w4 ⟨HH4.out.sl i64cells_len, hl1, hl2⟩ (by rw [HV.out]; exact HG.out) HT4.out.tab
  rw [HV.out] at htx
  have HTX := Lib.hid htx
  clear htx
  go_wp2_with fail
  refine HTX.out.mono ?_
  rintro e w5 ⟨rfl, hb5⟩
  have HO5 := Lib.hid (HO4.out.below' hb5)
  have HH5 := Lib.hid (HH4.out.below' hb5)
  have HR5 := Lib.hid (HR4.out.below' hb5)
  have HB5 := Lib.hid (HB4.out.trans (hb5.mono HB4.out.size))
  clear y0 y1 y2 y3 ly hb5 HTX
  have y0 := HO5.out.cell 0
  have y1 := HO5.out.cell 1
  have y2 := HO5.out.cell 2
  have y3 := HO5.out.cell 3
  have ly := HO5.out.lt
  have z0 := HR5.out.cell 0
  have z1 := HR5.out.cell 1
  have z2 := HR5.out.cell 2
  have z3 := HR5.out.cell 3
  have fz := HR5.out.frozen
  have lz := HR5.out.lt
  simp at y0 y1 y2 y3 z0 z1 z2 z3
  obtain ⟨uf, huf⟩ : ∃ uf, (((w5.setCell ⟨R, 0, none⟩ (.int .i64 gr)).setCell ⟨R, 1, none⟩ (.int .i64 gc)).setCell ⟨R, 2, none⟩ (.int .i64 gs)).setCell ⟨R, 3, none⟩ (.slice HA hn hc) = uf := ⟨_, rfl⟩
  have HOF := Lib.hid (put4 HR5.out (.int .i64 gr) (.int .i64 gc) (.int .i64 gs) (.slice HA hn hc) HB5.out HRW.out)
  rw [huf] at HOF
  have HUI : Hid ((⟨gr, gc, gs, HA, hn, hc, g.heights⟩ : GridR).In uf) := by
    rw [Hid, ← huf]
    exact ⟨(HH5.out.kept (fun b hb => put4_heap w5 R _ _ _ _ b (by have h1 := (HH5.out.lt b hb).1; have h2 := HRL.out; omega))).sl i64cells_len, hl1, hl2⟩
  have HUF := Lib.hid huf
  clear huf
  go_wp2
  rw [HUF.out]
  have f0 := HOF.out.1.cell 0
  have f1 := HOF.out.1.cell 1
  have f2 := HOF.out.1.cell 2
  have f3 := HOF.out.1.cell 3
  simp at f0 f1 f2 f3
  exact bodyPost_ret (v := .tuple #[.agg #[.int .i64 gr, .int .i64 gc, .int .i64 gs, .slice HA hn hc], .bool true]) (by simp [results, Tryz.results6, go_sem, f0, f1, f2, f3]) rfl ⟨⟨gr, gc, gs, HA, hn, hc, g.heights⟩, rfl, HV.out, HUI.out, HOF.out.2⟩

end Go.Proofs.YtmldijckjenbcaaGreatDoor
