/- ReadAsset: both sides. -/
import Derived.Test.YtgianbcplnciiaaDoorAssetP
import Derived.Deep.RegionHeld3
namespace Go.Proofs.YtgianbcplnciiaaDoor
open Go.RowKit

set_option maxRecDepth 100000 in
set_option maxHeartbeats 4000000 in
theorem implReadAsset_any (s : ByteArray) (w : World) (hs : s.size ≤ 1048576) (ht : LibAt w.heap.size w) : Calls Tryd.prog 19 #[.string s] w (fun e w' => ∃ (p : AssetR) (r : Option Asset), e = .returned (.tuple #[.agg #[.string p.id, .slice p.spotsA p.spotsN p.spotsC, .int .i64 p.worth], .bool r.isSome]) ∧ AssetOut s w w' p r) := by
  obtain ⟨R, hR⟩ : ∃ R, w.heap.size = R := ⟨_, rfl⟩
  obtain ⟨w0, hw0⟩ : ∃ w0, w.alloc (.cells #[.string ⟨#[]⟩, .slice none 0 0, .int .i64 0] 33) = w0 := ⟨_, rfl⟩
  have hb0 : Below w.heap.size w w0 := by rw [← hw0]; exact (Below.refl _ _).alloc (Nat.le_refl _) _
  have HR0 : Hid (Own w0 R 33 #[.string ⟨#[]⟩, .slice none 0 0, .int .i64 0]) := by rw [Hid, ← hw0, ← hR]; exact Own.new _ _ _
  have HB0 := Lib.hid hb0
  have HRW : Hid (w.heap.size ≤ R) := Nat.le_of_eq hR
  have HWR := Lib.hid hw0
  have HR := Lib.hid hR
  have HT0 := Lib.hid (ht.grow hb0)
  obtain ⟨m, hm⟩ := HT0.out.max w0 (Below.refl _ _)
  obtain ⟨P, hP⟩ : ∃ P, Lib.splitB ⟨#[32]⟩ 0 (Lib.countB s ⟨#[32]⟩) s = P := ⟨_, rfl⟩
  obtain ⟨wS, hw1⟩ : ∃ wS, w0.alloc (.cells (P.map Value.string).toArray 9) = wS := ⟨_, rfl⟩
  have hPl : P.length = Lib.countB s ⟨#[32]⟩ + 1 := by rw [← hP]; exact Lib.splitB_all _ (by decide) 0 _ s rfl
  have HC : Hid (Calls Tryd.prog 39 #[.string s, .string ⟨#[32]⟩] w0 fun e w' => e = .returned (.slice (some ⟨w0.heap.size, 0, none⟩) P.length P.length) ∧ w' = wS) := by
    have h := Tryd.strings_Split s ⟨#[32]⟩ m w0 (by omega) hm (by decide)
    rw [hP, hw1, ← hPl] at h
    exact h
  have hcb : Lib.countB s ⟨#[32]⟩ ≤ s.size := Lib.countB_le ⟨#[32]⟩ (by decide) s.size s (Nat.le_refl _)
  have hb1 : Below w0.heap.size w0 wS := by rw [← hw1]; exact (Below.refl _ _).alloc (Nat.le_refl _) _
  have hown : OwnsL wS w0.heap.size 9 1 strcells (.slice (some ⟨w0.heap.size, 0, none⟩) P.length P.length) P := by
    have h := own_cells w0 P P.length (Nat.le_refl _) (by simp [maxLen]; omega)
    rw [Lib.cellsOf_full, hw1] at h
    exact h
  have HSZ : Hid (∀ p, p ∈ P → p.size ≤ s.size) := fun p hp => by rw [← hP] at hp; exact splitB_size _ _ _ hp
  have HF : Hid (∀ x : Asset, x.fitsB 64 = true → s = assetText x → P = [x.id, dec x.worth, textList x.spots]) := fun x hx he => by
    have hp := pieces_asset hx
    rw [← he] at hp
    rw [← hP, countB_pieces hp, splitB_pieces _ _ _ _ hp (Nat.le_refl _)]
    rfl
  have HNIL : Hid (s = ⟨#[]⟩ → P.length ≠ 3) := fun he => by
    have hp : Pieces 32 s.data.toList [] s := ⟨by simp [joinE], fun _ h => (by cases h), by rw [he]; decide⟩
    rw [hPl, countB_pieces hp]
    decide
  have HT1 := Lib.hid (HT0.out.grow hb1)
  have HB1 := Lib.hid (HB0.out.trans (hb1.mono HB0.out.size))
  have HR1 := Lib.hid (HR0.out.below' hb1)
  have hsl := hown.sl strcells_len
  clear ht hm hP hw1 hPl hcb hb1 hown hb0 hw0 hR
  go_enter Tryd.func19, Tryd.ntmps19
  go_wp2_with fail
  rw [HWR.out, HR.out]
  refine HC.out.mono ?_
  rintro e w1 ⟨rfl, rfl⟩
  clear HC
  obtain ⟨L, hL⟩ : ∃ L, P.length = L := ⟨_, rfl⟩
  rw [hL] at hsl ⊢
  have HSL := Lib.hid hsl
  have hLm := hsl.le
  clear hsl
  by_cases h3 : L ≠ 3
  · have HNO := Lib.hid (noAsset_len HF.out (by rw [hL]; exact h3))
    have hne : ((L : Int) != 3) = true := by simp; omega
    clear h3 hL
    obtain ⟨uf, huf⟩ : ∃ uf, ((w1.setCell ⟨R, 0, none⟩ (.string ⟨#[]⟩)).setCell ⟨R, 1, none⟩ (.slice none 0 0)).setCell ⟨R, 2, none⟩ (.int .i64 0) = uf := ⟨_, rfl⟩
    have HOF := Lib.hid (put3 HR1.out (.string ⟨#[]⟩) (.slice none 0 0) (.int .i64 0) HB1.out HRW.out)
    rw [huf] at HOF
    have HUF := Lib.hid huf
    clear huf
    have z0 := HR1.out.cell 0
    have z1 := HR1.out.cell 1
    have z2 := HR1.out.cell 2
    have fz := HR1.out.frozen
    have lz := HR1.out.lt
    simp at z0 z1 z2
    go_wp2
    rw [HUF.out]
    have f0 := HOF.out.1.cell 0
    have f1 := HOF.out.1.cell 1
    have f2 := HOF.out.1.cell 2
    simp at f0 f1 f2
    exact bodyPost_ret (v := .tuple #[.agg #[.string ⟨#[]⟩, .slice none 0 0, .int .i64 0], .bool false]) (by simp [results, Tryd.results19, go_sem, f0, f1, f2]) rfl ⟨zeroAsset, none, rfl, AssetOut.none HNO.out HOF.out.2.1⟩
  obtain rfl : L = 3 := by omega
  obtain ⟨a, b, c, hPe⟩ : ∃ a b c, P = [a, b, c] := by
    cases P with
    | nil => simp at hL
    | cons a r => cases r with
      | nil => simp at hL
      | cons b r => cases r with
        | nil => simp at hL
        | cons c r => cases r with
          | nil => exact ⟨a, b, c, rfl⟩
          | cons _ _ => simp at hL
  subst hPe
  have HSA := Lib.hid (HSZ.out a (by simp))
  have HSB := Lib.hid (HSZ.out b (by simp))
  have HSC := Lib.hid (HSZ.out c (by simp))
  obtain ⟨b0, o0, y0, he, lb, hy0, x0⟩ := strs_at HSL.out (k := 0) (by decide)
  injection he with he
  injection he with he1 he2
  subst he1 he2
  obtain ⟨b1, o1, y1, he, _, hy1, x1⟩ := strs_at HSL.out (k := 1) (by decide)
  injection he with he
  injection he with he1 he2
  subst he1 he2
  obtain ⟨b2, o2, y2, he, _, hy2, x2⟩ := strs_at HSL.out (k := 2) (by decide)
  injection he with he
  injection he with he1 he2
  subst he1 he2
  simp at hy0 hy1 hy2
  subst hy0 hy1 hy2
  simp only [Nat.zero_add] at x0 x1 x2
  have HX0 := Lib.hid x0
  have HX1 := Lib.hid x1
  have HX2 := Lib.hid x2
  have HLB := Lib.hid lb
  clear hL h3
  go_wp2_with fail
  refine (readDecimal_any b w1 (by have := HSB.out; omega) HT1.out).mono ?_
  rintro e w2 ⟨r0, rfl, hr0, hb2⟩
  have HQ0 := Lib.hid hr0
  have HB2 := Lib.hid (HB1.out.trans (hb2.mono HB1.out.size))
  have HR2 := Lib.hid (HR1.out.below' hb2)
  have HT2 := Lib.hid (HT1.out.grow hb2)
  have x0' : w2.cell? ⟨w0.heap.size, 0, none⟩ = some (.string a) := (hb2.cell (p := ⟨w0.heap.size, 0, none⟩) HLB.out).trans HX0.out
  have x2' : w2.cell? ⟨w0.heap.size, 2, none⟩ = some (.string c) := (hb2.cell (p := ⟨w0.heap.size, 2, none⟩) HLB.out).trans HX2.out
  have lb' : w0.heap.size < w2.heap.size := Nat.lt_of_lt_of_le HLB.out hb2.size
  have HX0' := Lib.hid x0'
  have HLB' := Lib.hid lb'
  clear hr0 hb2 x0 x1 x2 lb x0'
  go_wp2_with fail
  refine (implReadList_any c w2 (by have := HSC.out; omega) HT2.out).mono ?_
  rintro e w3 ⟨v, r1, rfl, hl⟩
  have HLO := Lib.hid hl
  have HB3 := Lib.hid (HB2.out.trans (hl.below.mono HB2.out.size))
  have HR3 := Lib.hid (HR2.out.below' hl.below)
  have HT3 := Lib.hid (HT2.out.grow hl.below)
  have x0 : w3.cell? ⟨w0.heap.size, 0, none⟩ = some (.string a) := (hl.below.cell (p := ⟨w0.heap.size, 0, none⟩) HLB'.out).trans HX0'.out
  have lb : w0.heap.size < w3.heap.size := Nat.lt_of_lt_of_le HLB'.out hl.below.size
  have hRl : R < w2.heap.size := HR2.out.lt
  have HRL := Lib.hid hRl
  clear hl hRl x2' lb'
  obtain ⟨q0, hq0⟩ : ∃ q0, r0.getD 0 = q0 := ⟨_, rfl⟩
  rw [hq0]
  have HQG := Lib.hid hq0
  clear hq0
  obtain ⟨X, hX⟩ : ∃ X, w3.heap.size = X := ⟨_, rfl⟩
  have HXX := Lib.hid hX
  clear hX
  cases r1 with
  | none =>
    obtain rfl := HLO.out.nil rfl
    have HNO := Lib.hid (noAsset_list HF.out rfl HLO.out.reads)
    obtain ⟨w4, hw4⟩ : ∃ w4, w3.alloc (.cells #[.string a, .slice none 0 0, .int .i64 q0] 33) = w4 := ⟨_, rfl⟩
    have hb4 : Below w3.heap.size w3 w4 := by rw [← hw4]; exact (Below.refl _ _).alloc (Nat.le_refl _) _
    have HB4 := Lib.hid (HB3.out.trans (hb4.mono HB3.out.size))
    have HR4 := Lib.hid (HR3.out.below' hb4)
    have HW4 := Lib.hid hw4
    clear hb4 hw4
    cases r0
    all_goals
      go_upto_region 7 with fail
      rw [HW4.out, HXX.out]
      clear x0 lb
      obtain ⟨uf, huf⟩ : ∃ uf, ((w4.setCell ⟨R, 0, none⟩ (.string ⟨#[]⟩)).setCell ⟨R, 1, none⟩ (.slice none 0 0)).setCell ⟨R, 2, none⟩ (.int .i64 0) = uf := ⟨_, rfl⟩
      have HOF := Lib.hid (put3 HR4.out (.string ⟨#[]⟩) (.slice none 0 0) (.int .i64 0) HB4.out HRW.out)
      rw [huf] at HOF
      have HUF := Lib.hid huf
      clear huf
      have z0 := HR4.out.cell 0
      have z1 := HR4.out.cell 1
      have z2 := HR4.out.cell 2
      have fz := HR4.out.frozen
      have lz := HR4.out.lt
      simp at z0 z1 z2
      go_wp2
      rw [HUF.out]
      have f0 := HOF.out.1.cell 0
      have f1 := HOF.out.1.cell 1
      have f2 := HOF.out.1.cell 2
      simp at f0 f1 f2
      exact bodyPost_ret (v := .tuple #[.agg #[.string ⟨#[]⟩, .slice none 0 0, .int .i64 0], .bool false]) (by simp [results, Tryd.results19, go_sem, f0, f1, f2]) rfl ⟨zeroAsset, none, rfl, AssetOut.none HNO.out HOF.out.2.1⟩
  | some xs =>
    have hown := HLO.out.own xs rfl
    have hlr := HLO.out.reads
    have hlw := HLO.out.below.size
    clear HLO
    obtain ⟨A, cq, rfl, hnc, hcm, hsl⟩ := hown.slice (show ∀ x, (i64cells x).length = 1 from fun _ => rfl)
    obtain ⟨n, hn⟩ : ∃ n, xs.length = n := ⟨_, rfl⟩
    rw [hn] at hown hnc hsl ⊢
    obtain ⟨w4, hw4⟩ : ∃ w4, w3.alloc (.cells #[.string a, .slice A n cq, .int .i64 q0] 33) = w4 := ⟨_, rfl⟩
    have hb4 : Below w3.heap.size w3 w4 := by rw [← hw4]; exact (Below.refl _ _).alloc (Nat.le_refl _) _
    have HO4 : Hid (Own w4 X 33 #[.string a, .slice A n cq, .int .i64 q0]) := by rw [Hid, ← hw4, ← HXX.out]; exact Own.new _ _ _
    have HI4 : Hid ((⟨a, A, n, cq, xs, q0⟩ : AssetR).In w4) := ⟨hsl.below hb4, hnc, hcm⟩
    have HN4 := Lib.hid (hown.below' hb4)
    have HB4 := Lib.hid (HB3.out.trans (hb4.mono HB3.out.size))
    have HR4 := Lib.hid (HR3.out.below' hb4)
    have HT4 := Lib.hid (HT3.out.grow hb4)
    have HW4 := Lib.hid hw4
    have HLR := Lib.hid hlr
    have HWW : Hid (w.heap.size ≤ w2.heap.size) := HB2.out.size
    clear hown hlr hlw hb4 hw4 hsl hnc hcm hn
    cases r0 with
    | none =>
      have HNO := Lib.hid (noAsset_num HF.out rfl HQ0.out)
      go_upto_region 7 with fail
      rw [HW4.out, HXX.out]
      clear x0 lb
      obtain ⟨uf, huf⟩ : ∃ uf, ((w4.setCell ⟨R, 0, none⟩ (.string ⟨#[]⟩)).setCell ⟨R, 1, none⟩ (.slice none 0 0)).setCell ⟨R, 2, none⟩ (.int .i64 0) = uf := ⟨_, rfl⟩
      have HOF := Lib.hid (put3 HR4.out (.string ⟨#[]⟩) (.slice none 0 0) (.int .i64 0) HB4.out HRW.out)
      rw [huf] at HOF
      have HUF := Lib.hid huf
      clear huf
      have z0 := HR4.out.cell 0
      have z1 := HR4.out.cell 1
      have z2 := HR4.out.cell 2
      have fz := HR4.out.frozen
      have lz := HR4.out.lt
      simp at z0 z1 z2
      go_wp2
      rw [HUF.out]
      have f0 := HOF.out.1.cell 0
      have f1 := HOF.out.1.cell 1
      have f2 := HOF.out.1.cell 2
      simp at f0 f1 f2
      exact bodyPost_ret (v := .tuple #[.agg #[.string ⟨#[]⟩, .slice none 0 0, .int .i64 0], .bool false]) (by simp [results, Tryd.results19, go_sem, f0, f1, f2]) rfl ⟨zeroAsset, none, rfl, AssetOut.none HNO.out HOF.out.2.1⟩
    | some q =>
      obtain rfl : q = q0 := HQG.out
      have hsa : a.size ≤ 9223372036854775807 := by have := HSA.out; omega
      go_upto_region 7 with fail
      rw [HW4.out, HXX.out]
      clear x0 lb
      have y0 := HO4.out.cell 0
      have y1 := HO4.out.cell 1
      have y2 := HO4.out.cell 2
      have ly := HO4.out.lt
      simp at y0 y1 y2
      go_wp2_with fail
      refine (implAssetText_any (⟨a, A, n, cq, xs, q⟩ : AssetR) w4 HI4.out hsa HT4.out.tab).mono ?_
      rintro e w5 ⟨rfl, hb5⟩
      have HB5 := Lib.hid (HB4.out.trans (hb5.mono HB4.out.size))
      have HR5 := Lib.hid (HR4.out.below' hb5)
      have HO5 := Lib.hid (HO4.out.below' hb5)
      have HN5 := Lib.hid (HN4.out.below' hb5)
      clear hb5 y0 y1 y2 ly
      obtain ⟨tx, htx⟩ : ∃ tx, assetTextA (⟨a, A, n, cq, xs, q⟩ : AssetR).val = tx := ⟨_, rfl⟩
      rw [htx]
      by_cases hts : tx = s
      · subst hts
        have HYS : Hid (ReadsAsset tx (some (⟨a, A, n, cq, xs, q⟩ : AssetR).val)) := by
          unfold assetTextA at htx
          split at htx
          · rename_i hf; exact ReadsAsset.ok hf htx.symm
          · exact absurd rfl (HNIL.out htx.symm)
        have y0 := HO5.out.cell 0
        have y1 := HO5.out.cell 1
        have y2 := HO5.out.cell 2
        have ly := HO5.out.lt
        simp at y0 y1 y2
        clear htx
        obtain ⟨uf, huf⟩ : ∃ uf, ((w5.setCell ⟨R, 0, none⟩ (.string a)).setCell ⟨R, 1, none⟩ (.slice A n cq)).setCell ⟨R, 2, none⟩ (.int .i64 q) = uf := ⟨_, rfl⟩
        have HOF := Lib.hid (put3 HR5.out (.string a) (.slice A n cq) (.int .i64 q) HB5.out HRW.out)
        rw [huf] at HOF
        have HUF := Lib.hid huf
        clear huf
        have z0 := HR5.out.cell 0
        have z1 := HR5.out.cell 1
        have z2 := HR5.out.cell 2
        have fz := HR5.out.frozen
        have lz := HR5.out.lt
        simp at z0 z1 z2
        go_wp2
        rw [HUF.out]
        have f0 := HOF.out.1.cell 0
        have f1 := HOF.out.1.cell 1
        have f2 := HOF.out.1.cell 2
        simp at f0 f1 f2
        exact bodyPost_ret (v := .tuple #[.agg #[.string a, .slice A n cq, .int .i64 q], .bool true]) (by simp [results, Tryd.results19, go_sem, f0, f1, f2]) rfl ⟨(⟨a, A, n, cq, xs, q⟩ : AssetR), some (⟨a, A, n, cq, xs, q⟩ : AssetR).val, rfl, ⟨HYS.out, rfl, (HN5.out.span HOF.out.2.2 (fun k hk => .inr (by have := (HN5.out.lt k hk).1; have := HRL.out; omega))).rebase HWW.out, HOF.out.2.1⟩⟩
      · have hne : (tx.toList == s.toList) = false := by
          rw [beq_eq_false_iff_ne]; intro h; exact hts ((bytes_inj _ _).1 h)
        have HNO := Lib.hid (noAsset_bad HF.out rfl HQ0.out HLR.out (fun hf he => hts (by
          rw [← htx]; show assetTextA ⟨a, xs, q⟩ = s; rw [assetTextA, if_pos hf]; exact he.symm)))
        clear hts htx
        obtain ⟨uf, huf⟩ : ∃ uf, ((w5.setCell ⟨R, 0, none⟩ (.string ⟨#[]⟩)).setCell ⟨R, 1, none⟩ (.slice none 0 0)).setCell ⟨R, 2, none⟩ (.int .i64 0) = uf := ⟨_, rfl⟩
        have HOF := Lib.hid (put3 HR5.out (.string ⟨#[]⟩) (.slice none 0 0) (.int .i64 0) HB5.out HRW.out)
        rw [huf] at HOF
        have HUF := Lib.hid huf
        clear huf
        have z0 := HR5.out.cell 0
        have z1 := HR5.out.cell 1
        have z2 := HR5.out.cell 2
        have fz := HR5.out.frozen
        have lz := HR5.out.lt
        simp at z0 z1 z2
        go_wp2
        rw [HUF.out]
        have f0 := HOF.out.1.cell 0
        have f1 := HOF.out.1.cell 1
        have f2 := HOF.out.1.cell 2
        simp at f0 f1 f2
        exact bodyPost_ret (v := .tuple #[.agg #[.string ⟨#[]⟩, .slice none 0 0, .int .i64 0], .bool false]) (by simp [results, Tryd.results19, go_sem, f0, f1, f2]) rfl ⟨zeroAsset, none, rfl, AssetOut.none HNO.out HOF.out.2.1⟩
set_option maxRecDepth 100000 in
set_option maxHeartbeats 4000000 in
theorem specReadAsset_any (s : ByteArray) (w : World) (hs : s.size ≤ 1048576) : Calls Tryd.prog 18 #[.string s] w (fun e w' => ∃ (p : AssetR) (r : Option Asset), e = .returned (.tuple #[.agg #[.string p.id, .slice p.spotsA p.spotsN p.spotsC, .int .i64 p.worth], .bool r.isSome]) ∧ AssetOut s w w' p r) := by
  obtain ⟨R, hR⟩ : ∃ R, w.heap.size = R := ⟨_, rfl⟩
  obtain ⟨w0, hw0⟩ : ∃ w0, w.alloc (.cells #[.string ⟨#[]⟩, .slice none 0 0, .int .i64 0] 33) = w0 := ⟨_, rfl⟩
  have hb0 : Below w.heap.size w w0 := by rw [← hw0]; exact (Below.refl _ _).alloc (Nat.le_refl _) _
  have HR0 : Hid (Own w0 R 33 #[.string ⟨#[]⟩, .slice none 0 0, .int .i64 0]) := by rw [Hid, ← hw0, ← hR]; exact Own.new _ _ _
  have HB0 := Lib.hid hb0
  have HRW : Hid (w.heap.size ≤ R) := Nat.le_of_eq hR
  have HWR := Lib.hid hw0
  have HR := Lib.hid hR
  clear hb0 hw0 hR
  go_enter Tryd.func18, Tryd.ntmps18
  go_wp2_with fail
  rw [HWR.out, HR.out]
  refine (l01Split_any s 32 w0 hs).mono ?_
  rintro e w1 ⟨v, ps, last, rfl, hown, hp, hb1⟩
  obtain ⟨P, hP⟩ : ∃ P, ps ++ [last] = P := ⟨_, rfl⟩
  have hsz := piece_sizes hp
  rw [hP] at hown hsz
  have HSZ := Lib.hid hsz
  have HF : Hid (∀ x : Asset, x.fitsB 64 = true → s = assetText x → P = [x.id, dec x.worth, textList x.spots]) := fun x hx he => by
    have hq := pieces_asset hx
    rw [← he] at hq
    obtain ⟨h1, h2⟩ := hp.uniq hq
    rw [← hP, h1, h2]
    rfl
  have HPC : Hid (∀ a b c, P = [a, b, c] → Pieces 32 s.data.toList [a, b] c) := fun a b c he => by
    have e : ps ++ [last] = [a, b] ++ [c] := hP.trans he
    obtain ⟨h1, h2⟩ := List.append_inj' e rfl
    injection h2 with h2 _
    rw [← h1, ← h2]
    exact hp
  obtain ⟨A, cp, rfl, _, _, hsl⟩ := hown.slice strcells_len
  have HB1 := Lib.hid (HB0.out.trans (hb1.mono HB0.out.size))
  have HR1 := Lib.hid (HR0.out.below' hb1)
  clear hown hp hb1 hP hsz
  obtain ⟨L, hL⟩ : ∃ L, P.length = L := ⟨_, rfl⟩
  rw [hL] at hsl ⊢
  have HSL := Lib.hid hsl
  have hLm := hsl.le
  clear hsl
  by_cases h3 : L ≠ 3
  · have HNO := Lib.hid (noAsset_len HF.out (by rw [hL]; exact h3))
    have hne : ((L : Int) != 3) = true := by simp; omega
    clear h3 hL
    obtain ⟨uf, huf⟩ : ∃ uf, ((w1.setCell ⟨R, 0, none⟩ (.string ⟨#[]⟩)).setCell ⟨R, 1, none⟩ (.slice none 0 0)).setCell ⟨R, 2, none⟩ (.int .i64 0) = uf := ⟨_, rfl⟩
    have HOF := Lib.hid (put3 HR1.out (.string ⟨#[]⟩) (.slice none 0 0) (.int .i64 0) HB1.out HRW.out)
    rw [huf] at HOF
    have HUF := Lib.hid huf
    clear huf
    have z0 := HR1.out.cell 0
    have z1 := HR1.out.cell 1
    have z2 := HR1.out.cell 2
    have fz := HR1.out.frozen
    have lz := HR1.out.lt
    simp at z0 z1 z2
    go_wp2
    rw [HUF.out]
    have f0 := HOF.out.1.cell 0
    have f1 := HOF.out.1.cell 1
    have f2 := HOF.out.1.cell 2
    simp at f0 f1 f2
    exact bodyPost_ret (v := .tuple #[.agg #[.string ⟨#[]⟩, .slice none 0 0, .int .i64 0], .bool false]) (by simp [results, Tryd.results18, go_sem, f0, f1, f2]) rfl ⟨zeroAsset, none, rfl, AssetOut.none HNO.out HOF.out.2.1⟩
  obtain rfl : L = 3 := by omega
  obtain ⟨a, b, c, hPe⟩ : ∃ a b c, P = [a, b, c] := by
    cases P with
    | nil => simp at hL
    | cons a r => cases r with
      | nil => simp at hL
      | cons b r => cases r with
        | nil => simp at hL
        | cons c r => cases r with
          | nil => exact ⟨a, b, c, rfl⟩
          | cons _ _ => simp at hL
  subst hPe
  have HSA := Lib.hid (HSZ.out a (by simp))
  have HSB := Lib.hid (HSZ.out b (by simp))
  have HSC := Lib.hid (HSZ.out c (by simp))
  obtain ⟨b0, o0, y0, rfl, lb, hy0, x0⟩ := strs_at HSL.out (k := 0) (by decide)
  obtain ⟨b1, o1, y1, he, _, hy1, x1⟩ := strs_at HSL.out (k := 1) (by decide)
  injection he with he
  injection he with he1 he2
  subst he1 he2
  obtain ⟨b2, o2, y2, he, _, hy2, x2⟩ := strs_at HSL.out (k := 2) (by decide)
  injection he with he
  injection he with he1 he2
  subst he1 he2
  simp at hy0 hy1 hy2
  subst hy0 hy1 hy2
  rw [Nat.add_zero] at x0
  have HX0 := Lib.hid x0
  have HX1 := Lib.hid x1
  have HX2 := Lib.hid x2
  have HLB := Lib.hid lb
  clear hL h3
  go_wp2_with fail
  refine (l01Number_any b w1 (by have := HSB.out; omega)).mono ?_
  rintro e w2 ⟨r0, rfl, hr0, rfl⟩
  have HQ0 := Lib.hid hr0
  have HB2 := HB1
  have HR2 := HR1
  have HX0' := HX0
  have HLB' := HLB
  clear hr0 x0 x1
  go_wp2_with fail
  refine (specReadList_any c w1 (by have := HSC.out; omega)).mono ?_
  rintro e w3 ⟨v, r1, rfl, hl⟩
  have HLO := Lib.hid hl
  have HB3 := Lib.hid (HB2.out.trans (hl.below.mono HB2.out.size))
  have HR3 := Lib.hid (HR2.out.below' hl.below)
  have x0 : w3.cell? ⟨b0, o0, none⟩ = some (.string a) := (hl.below.cell (p := ⟨b0, o0, none⟩) HLB'.out).trans HX0'.out
  have lb : b0 < w3.heap.size := Nat.lt_of_lt_of_le HLB'.out hl.below.size
  have hRl : R < w1.heap.size := HR2.out.lt
  have HRL := Lib.hid hRl
  clear hl hRl x2
  obtain ⟨q0, hq0⟩ : ∃ q0, r0.getD 0 = q0 := ⟨_, rfl⟩
  rw [hq0]
  have HQG := Lib.hid hq0
  clear hq0
  obtain ⟨X, hX⟩ : ∃ X, w3.heap.size = X := ⟨_, rfl⟩
  have HXX := Lib.hid hX
  clear hX
  cases r1 with
  | none =>
    obtain rfl := HLO.out.nil rfl
    have HNO := Lib.hid (noAsset_list HF.out rfl HLO.out.reads)
    obtain ⟨w4, hw4⟩ : ∃ w4, w3.alloc (.cells #[.string a, .slice none 0 0, .int .i64 q0] 33) = w4 := ⟨_, rfl⟩
    have hb4 : Below w3.heap.size w3 w4 := by rw [← hw4]; exact (Below.refl _ _).alloc (Nat.le_refl _) _
    have HB4 := Lib.hid (HB3.out.trans (hb4.mono HB3.out.size))
    have HR4 := Lib.hid (HR3.out.below' hb4)
    have HW4 := Lib.hid hw4
    clear hb4 hw4
    cases r0
    all_goals
      go_upto_region 7 with fail
      rw [HW4.out, HXX.out]
      clear x0 lb
      obtain ⟨uf, huf⟩ : ∃ uf, ((w4.setCell ⟨R, 0, none⟩ (.string ⟨#[]⟩)).setCell ⟨R, 1, none⟩ (.slice none 0 0)).setCell ⟨R, 2, none⟩ (.int .i64 0) = uf := ⟨_, rfl⟩
      have HOF := Lib.hid (put3 HR4.out (.string ⟨#[]⟩) (.slice none 0 0) (.int .i64 0) HB4.out HRW.out)
      rw [huf] at HOF
      have HUF := Lib.hid huf
      clear huf
      have z0 := HR4.out.cell 0
      have z1 := HR4.out.cell 1
      have z2 := HR4.out.cell 2
      have fz := HR4.out.frozen
      have lz := HR4.out.lt
      simp at z0 z1 z2
      go_wp2
      rw [HUF.out]
      have f0 := HOF.out.1.cell 0
      have f1 := HOF.out.1.cell 1
      have f2 := HOF.out.1.cell 2
      simp at f0 f1 f2
      exact bodyPost_ret (v := .tuple #[.agg #[.string ⟨#[]⟩, .slice none 0 0, .int .i64 0], .bool false]) (by simp [results, Tryd.results18, go_sem, f0, f1, f2]) rfl ⟨zeroAsset, none, rfl, AssetOut.none HNO.out HOF.out.2.1⟩
  | some xs =>
    have hown := HLO.out.own xs rfl
    have hlr := HLO.out.reads
    have hlw := HLO.out.below.size
    clear HLO
    obtain ⟨A, cq, rfl, hnc, hcm, hsl⟩ := hown.slice (show ∀ x, (i64cells x).length = 1 from fun _ => rfl)
    obtain ⟨n, hn⟩ : ∃ n, xs.length = n := ⟨_, rfl⟩
    rw [hn] at hown hnc hsl ⊢
    obtain ⟨w4, hw4⟩ : ∃ w4, w3.alloc (.cells #[.string a, .slice A n cq, .int .i64 q0] 33) = w4 := ⟨_, rfl⟩
    have hb4 : Below w3.heap.size w3 w4 := by rw [← hw4]; exact (Below.refl _ _).alloc (Nat.le_refl _) _
    have HO4 : Hid (Own w4 X 33 #[.string a, .slice A n cq, .int .i64 q0]) := by rw [Hid, ← hw4, ← HXX.out]; exact Own.new _ _ _
    have HI4 : Hid ((⟨a, A, n, cq, xs, q0⟩ : AssetR).In w4) := ⟨hsl.below hb4, hnc, hcm⟩
    have HN4 := Lib.hid (hown.below' hb4)
    have HB4 := Lib.hid (HB3.out.trans (hb4.mono HB3.out.size))
    have HR4 := Lib.hid (HR3.out.below' hb4)
    have HW4 := Lib.hid hw4
    have HLR := Lib.hid hlr
    have HWW : Hid (w.heap.size ≤ w1.heap.size) := HB2.out.size
    clear hown hlr hlw hb4 hw4 hsl hnc hcm hn
    cases r0 with
    | none =>
      have HNO := Lib.hid (noAsset_num HF.out rfl HQ0.out)
      go_upto_region 7 with fail
      rw [HW4.out, HXX.out]
      clear x0 lb
      obtain ⟨uf, huf⟩ : ∃ uf, ((w4.setCell ⟨R, 0, none⟩ (.string ⟨#[]⟩)).setCell ⟨R, 1, none⟩ (.slice none 0 0)).setCell ⟨R, 2, none⟩ (.int .i64 0) = uf := ⟨_, rfl⟩
      have HOF := Lib.hid (put3 HR4.out (.string ⟨#[]⟩) (.slice none 0 0) (.int .i64 0) HB4.out HRW.out)
      rw [huf] at HOF
      have HUF := Lib.hid huf
      clear huf
      have z0 := HR4.out.cell 0
      have z1 := HR4.out.cell 1
      have z2 := HR4.out.cell 2
      have fz := HR4.out.frozen
      have lz := HR4.out.lt
      simp at z0 z1 z2
      go_wp2
      rw [HUF.out]
      have f0 := HOF.out.1.cell 0
      have f1 := HOF.out.1.cell 1
      have f2 := HOF.out.1.cell 2
      simp at f0 f1 f2
      exact bodyPost_ret (v := .tuple #[.agg #[.string ⟨#[]⟩, .slice none 0 0, .int .i64 0], .bool false]) (by simp [results, Tryd.results18, go_sem, f0, f1, f2]) rfl ⟨zeroAsset, none, rfl, AssetOut.none HNO.out HOF.out.2.1⟩
    | some q =>
      obtain rfl : q = q0 := HQG.out
      have hsa : a.size ≤ 9223372036854775807 := by have := HSA.out; omega
      go_upto_region 7 with fail
      rw [HW4.out, HXX.out]
      clear x0 lb
      have y0 := HO4.out.cell 0
      have y1 := HO4.out.cell 1
      have y2 := HO4.out.cell 2
      have ly := HO4.out.lt
      simp at y0 y1 y2
      go_wp2_with fail
      refine (l15One_any (⟨a, A, n, cq, xs, q⟩ : AssetR) 64 X 0 w4 HI4.out hsa (by decide) (by decide) y0 y1 y2 ly).mono ?_
      rintro e w5 ⟨rfl, hb5⟩
      have HB5 := Lib.hid (HB4.out.trans (hb5.mono HB4.out.size))
      have HR5 := Lib.hid (HR4.out.below' hb5)
      have HO5 := Lib.hid (HO4.out.below' hb5)
      have HN5 := Lib.hid (HN4.out.below' hb5)
      clear hb5 y0 y1 y2 ly
      cases ho : Asset.fitsB 64 (⟨a, A, n, cq, xs, q⟩ : AssetR).val
      · have HNO := Lib.hid (noAsset_bad HF.out rfl HQ0.out HLR.out (fun hf _ => by
          have h2 : Asset.fitsB 64 ⟨a, xs, q⟩ = false := ho
          rw [h2] at hf; cases hf))
        clear ho
        obtain ⟨uf, huf⟩ : ∃ uf, ((w5.setCell ⟨R, 0, none⟩ (.string ⟨#[]⟩)).setCell ⟨R, 1, none⟩ (.slice none 0 0)).setCell ⟨R, 2, none⟩ (.int .i64 0) = uf := ⟨_, rfl⟩
        have HOF := Lib.hid (put3 HR5.out (.string ⟨#[]⟩) (.slice none 0 0) (.int .i64 0) HB5.out HRW.out)
        rw [huf] at HOF
        have HUF := Lib.hid huf
        clear huf
        have z0 := HR5.out.cell 0
        have z1 := HR5.out.cell 1
        have z2 := HR5.out.cell 2
        have fz := HR5.out.frozen
        have lz := HR5.out.lt
        simp at z0 z1 z2
        go_wp2
        rw [HUF.out]
        have f0 := HOF.out.1.cell 0
        have f1 := HOF.out.1.cell 1
        have f2 := HOF.out.1.cell 2
        simp at f0 f1 f2
        exact bodyPost_ret (v := .tuple #[.agg #[.string ⟨#[]⟩, .slice none 0 0, .int .i64 0], .bool false]) (by simp [results, Tryd.results18, go_sem, f0, f1, f2]) rfl ⟨zeroAsset, none, rfl, AssetOut.none HNO.out HOF.out.2.1⟩
      · have HYS : Hid (ReadsAsset s (some (⟨a, A, n, cq, xs, q⟩ : AssetR).val)) := ReadsAsset.ok ho (asset_of_pieces (HPC.out a b c rfl) HQ0.out HLR.out)
        have y0 := HO5.out.cell 0
        have y1 := HO5.out.cell 1
        have y2 := HO5.out.cell 2
        have ly := HO5.out.lt
        simp at y0 y1 y2
        clear ho
        obtain ⟨uf, huf⟩ : ∃ uf, ((w5.setCell ⟨R, 0, none⟩ (.string a)).setCell ⟨R, 1, none⟩ (.slice A n cq)).setCell ⟨R, 2, none⟩ (.int .i64 q) = uf := ⟨_, rfl⟩
        have HOF := Lib.hid (put3 HR5.out (.string a) (.slice A n cq) (.int .i64 q) HB5.out HRW.out)
        rw [huf] at HOF
        have HUF := Lib.hid huf
        clear huf
        have z0 := HR5.out.cell 0
        have z1 := HR5.out.cell 1
        have z2 := HR5.out.cell 2
        have fz := HR5.out.frozen
        have lz := HR5.out.lt
        simp at z0 z1 z2
        go_wp2
        rw [HUF.out]
        have f0 := HOF.out.1.cell 0
        have f1 := HOF.out.1.cell 1
        have f2 := HOF.out.1.cell 2
        simp at f0 f1 f2
        exact bodyPost_ret (v := .tuple #[.agg #[.string a, .slice A n cq, .int .i64 q], .bool true]) (by simp [results, Tryd.results18, go_sem, f0, f1, f2]) rfl ⟨(⟨a, A, n, cq, xs, q⟩ : AssetR), some (⟨a, A, n, cq, xs, q⟩ : AssetR).val, rfl, ⟨HYS.out, rfl, (HN5.out.span HOF.out.2.2 (fun k hk => .inr (by have := (HN5.out.lt k hk).1; have := HRL.out; omega))).rebase HWW.out, HOF.out.2.1⟩⟩

end Go.Proofs.YtgianbcplnciiaaDoor
