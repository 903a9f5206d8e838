/- The walk of the law FnExposure: it returns true. -/
import Derived.Test.YtphapakhoibamaaGreatDoorR8Grid
import Derived.Test.YtphapakhoibamaaGreatDoorR8Mass
import Derived.Test.YtphapakhoibamaaGreatDoorMDraw
import Derived.Test.YtphapakhoibamaaGreatDoorR8
import Derived.Test.YtphapakhoibamaaGreatDoorMExpo
import Derived.Test.YtphapakhoibamaaGreatDoorBuried
import Derived.Test.YtphapakhoibamaaGreatDoorRunA
import Derived.Test.YtphapakhoibamaaGreatDoorMRun
import Derived.Test.YtphapakhoibamaaGreatDoorExposeT
import Derived.Test.YtphapakhoibamaaGreatDoorMAsset
import Derived.Deep.RegionHeld3
namespace Go.Proofs.YtphapakhoibamaaGreatDoor
open Go.RowKit

theorem fits_up {x : Asset} {c d : Int} (h : x.fitsB c = true) (hc : c ≤ d) : x.fitsB d = true := by
  simp only [Asset.fitsB, cellsB_eq, Bool.and_eq_true, decide_eq_true_eq, List.all_eq_true, inB_iff] at h ⊢
  exact ⟨⟨h.1.1, h.1.2.1, fun y hy => by have := h.1.2.2 y hy; omega⟩, h.2⟩
theorem assetText_size {x : Asset} (h : x.fitsB 64 = true) : (assetText x).size ≤ 1048576 := by
  have ho := assetOk h
  have h1 := textList_size ho.i64
  have h2 := dec_size ho.worth
  have h3 := ho.id
  have h4 := ho.len
  have e1 : (⟨#[32]⟩ : ByteArray).size = 1 := rfl
  unfold assetText
  simp only [ByteArray.size_append, e1]
  omega
theorem asset_back {x : Asset} {w w' : World} {p : AssetR} {r : Option Asset} (hx : x.fitsB 64 = true) (h : AssetOut (assetText x) w w' p r) : r.isSome = true ∧ p.val = x := by
  have hr : r = some x := by
    cases r with
    | none => exact absurd rfl (h.reads.no rfl x hx)
    | some y =>
      obtain ⟨h1, h2⟩ := h.reads.yes y rfl
      rw [assetText_inj hx h1 h2]
  exact ⟨by rw [hr]; rfl, by rw [h.val, hr]; rfl⟩
theorem firstF_yes {b t : Int} (h : 0 ≤ t) (h2 : b < 0 ∨ t < b) : firstF b t = t := by unfold firstF; rw [if_pos ⟨h, h2⟩]
theorem firstF_no {b t : Int} (h : ¬ (0 ≤ t ∧ (b < 0 ∨ t < b))) : firstF b t = b := by unfold firstF; rw [if_neg h]
theorem getD_at {l : List Int} {c : Nat} {t : Int} (h : l[c]? = some t) : l.getD ((c : Int)).toNat 0 = t := by rw [Int.toNat_natCast, List.getD_eq_getElem?_getD, h]; rfl
/-- One more cell of an asset. -/
theorem cell_step {R S ts sp : List Int} {j c : Nat} {b : Bool} {q f s t : Int} (hy : sp[j]? = some (c : Int)) (hs : S[c]? = some s) (ht : ts[c]? = some t) (hb : (sp.take j).any (hasB R) = b) (hq : sumAt S (sp.take j) = q) (hf : firstT ts (sp.take j) = f) :
    (sp.take (j + 1)).any (hasB R) = (b || hasQ R c) ∧ sumAt S (sp.take (j + 1)) = q + s ∧ firstT ts (sp.take (j + 1)) = firstF f t := by
  have e : sp.take (j + 1) = sp.take j ++ [(c : Int)] := by
    rw [List.take_succ_eq_append_getElem (List.getElem?_eq_some_iff.1 hy).1, (List.getElem?_eq_some_iff.1 hy).2]
  rw [e]
  refine ⟨by rw [List.any_append, hb, List.any_cons, List.any_nil, Bool.or_false, hasB_hasQ], ?_, ?_⟩
  · rw [sumAt_snoc, hq, getD_at hs]
  · rw [firstT_snoc, hf, getD_at ht]
set_option maxRecDepth 100000 in
set_option maxHeartbeats 4000000 in
theorem walk_FnExposure (A0 : Option Addr) (n0 c0 : Nat) (x0 : List Int) (A1 : Option Addr) (n1 c1 : Nat) (x1 : List Int) (w : World) (s0 : SliceOf w 1 u8cells A0 n0 x0) (g0 : ∀ x ∈ x0, 0 ≤ x ∧ x ≤ 255) (s1 : SliceOf w 1 u8cells A1 n1 x1) (g1 : ∀ x ∈ x1, 0 ≤ x ∧ x ≤ 255) (ht : LibAt w.heap.size w) :
    Calls Tryz.prog 3 #[.slice A0 n0 c0, .slice A1 n1 c1] w (Ret (.bool true) w) := by
  have S0 := Lib.hid s0
  have S1 := Lib.hid s1
  have G0 := Lib.hid g0
  have G1 := Lib.hid g1
  have HLB := Lib.hid ht
  have hn0 := s0.le
  have hn1 := s1.le
  clear s0 s1 g0 g1 ht
  cases hlong : (decide (1048576 < n0) || decide (1048576 < n1))
  rotate_left
  · go_enter Tryz.func3, Tryz.ntmps3
    go_wp2_with (go_at_call 4; refine (r8Long_any A0 A1 n0 c0 n1 c1 _ hn0 hn1).mono ?_; rintro e w' ⟨rfl, rfl⟩; rw [hlong])
    go_ret
    exact Ret.b rfl (Below.refl _ _)
  go_enter Tryz.func3, Tryz.ntmps3
  go_wp2_with fail
  refine (r8Long_any A0 A1 n0 c0 n1 c1 _ hn0 hn1).mono ?_
  rintro e w' ⟨rfl, rfl⟩
  rw [hlong]
  clear hlong
  go_wp2_with fail
  refine (r8Grid_any A0 n0 c0 x0 w S0.out G0.out).mono ?_
  rintro e w1 ⟨g, rfl, hgi, hgb, hb1, _⟩
  obtain ⟨X, hX⟩ : ∃ X, w1.heap.size = X := ⟨_, rfl⟩
  obtain ⟨wb, hwb⟩ : ∃ wb, w1.alloc (.cells #[.int .i64 g.rows, .int .i64 g.columns, .int .i64 g.size, .slice g.heightsA g.heightsN g.heightsC] 26) = wb := ⟨_, rfl⟩
  have hbb : Below w1.heap.size w1 wb := by rw [← hwb]; exact (Below.refl _ _).alloc (Nat.le_refl _) _
  have HBX : Hid (BoxD X g wb) := ⟨by rw [← hwb, ← hX]; exact Own.new _ _ _, hgi.below hbb⟩
  have HBW : Hid (Below w.heap.size w wb) := hb1.trans (hbb.mono hb1.size)
  have HS1 := Lib.hid ((S1.out.below hb1).below hbb)
  have HGB := Lib.hid hgb
  have hglen : g.val.heights.length = g.heightsN := hgi.1.len
  have hn64 : 1 ≤ g.heightsN ∧ g.heightsN ≤ 64 := by
    have h := gridB_parts hgb
    have h2 := (mul_i64 h.1 h.2.1).2
    have h3 := h.2.2.2.1
    rw [hglen] at h3
    omega
  obtain ⟨hn1', hn64'⟩ := hn64
  have HGL := Lib.hid hglen
  obtain ⟨ga, go, hgA, _⟩ := hts_at hgi hgb (show 0 < g.heightsN by omega)
  have HGA := Lib.hid hgA
  obtain ⟨y0, y1, y2, y3, ly⟩ := HBX.out.cells
  clear hb1 hbb hgi hgb hglen hgA
  go_wp2_with fail
  try rw [hwb]
  clear hwb hX y0 y1 y2 y3 ly
  refine (r8Masses_any g A1 n1 c1 x1 wb HS1.out G1.out hn64').mono ?_
  rintro e w2 ⟨v, ms, rfl, hown, hml, hmb, hb2⟩
  obtain ⟨MA, mc, rfl, hmc, _, hmsl⟩ := hown.slice i64cells_len
  rw [hml] at hmsl hmc ⊢
  obtain ⟨ma, mo, _, rfl, _, _⟩ := ints_at hmsl (show 0 < g.heightsN by omega)
  have HM2 := Lib.hid hmsl
  have HX2 := Lib.hid (HBX.out.grow hb2)
  have HB2 := Lib.hid (HBW.out.trans (hb2.mono HBW.out.size))
  have HS2 := Lib.hid (HS1.out.below hb2)
  have HDR : Hid (DrawnM g.val ms) := ⟨HGB.out, hml.trans HGL.out.symm, hmb⟩
  have HML := Lib.hid hml
  obtain ⟨y0, y1, y2, y3, ly⟩ := HX2.out.cells
  clear hown hml hmb hb2 hmsl
  go_wp2_with fail
  clear y0 y1 y2 y3 ly
  refine (r8Assets_any A1 n1 c1 x1 g w2 HS2.out G1.out HX2.out.gi hn1' hn64').mono ?_
  rintro e w3 ⟨v, xs, rfl, hxv, hxg, ⟨AA, ac, rfl, hxs⟩, hb3⟩
  obtain ⟨an, han⟩ : ∃ an, xs.length = an := ⟨_, rfl⟩
  have HAN := Lib.hid han
  rw [han] at hxs ⊢
  have hasl := hxs.le
  have HAS : Hid (assetsB g.val xs = true) := by
    rw [Hid]; unfold assetsB
    rw [Bool.and_eq_true, HGL.out]
    exact ⟨HGB.out, hxv⟩
  have han12 : an ≤ 12 := by rw [← han]; exact assetsB_len HAS.out
  have HXG := Lib.hid hxg
  have HA3 := Lib.hid hxs
  have HM3 := Lib.hid (HM2.out.below hb3)
  have HX3 := Lib.hid (HX2.out.grow hb3)
  have HB3 := Lib.hid (HB2.out.trans (hb3.mono HB2.out.size))
  have HS3 := Lib.hid (HS2.out.below hb3)
  clear hxv hxg han hxs hb3
  go_wp2_with fail
  refine (r8At_any A1 n1 c1 x1 60 100 w3 HS3.out G1.out (by omega) (by omega) (by omega)).mono ?_
  rintro e w' ⟨fq, rfl, hfq, rfl⟩
  obtain ⟨fr, hfr⟩ : ∃ fr : Int, 50 + 10 * (fq : Int) = fr := ⟨_, rfl⟩
  have hf1 : 1 ≤ fr := by omega
  have hf2 : fr ≤ 5000 := by omega
  have hexpo := expo HDR.out HAS.out (by rw [HML.out]; exact hn64') hf1 hf2
  obtain ⟨ts, hts⟩ : ∃ ts, (stT g.val fr ms (runN g.val fr ms)).times = ts := ⟨_, rfl⟩
  obtain ⟨S, hS⟩ : ∃ S, (stT g.val fr ms (runN g.val fr ms)).settled = S := ⟨_, rfl⟩
  obtain ⟨R, hR⟩ : ∃ R, reachL g.val ms fr = R := ⟨_, rfl⟩
  obtain ⟨HK, hHK⟩ : ∃ z, hitK g.val xs ms fr = z := ⟨_, rfl⟩
  obtain ⟨HA, hHA⟩ : ∃ z, hitA g.val xs ms fr = z := ⟨_, rfl⟩
  obtain ⟨HW, hHW⟩ : ∃ z, hitW g.val xs ms fr = z := ⟨_, rfl⟩
  rw [hts, hS, hR, hHK, hHA, hHW] at hexpo
  have HE := Lib.hid hexpo
  have HTS := Lib.hid hts
  have HSS := Lib.hid hS
  have HRR := Lib.hid hR
  have HHK := Lib.hid hHK
  have HHA := Lib.hid hHA
  have HHW := Lib.hid hHW
  clear hexpo hts hS hR hHK hHA hHW
  obtain ⟨y0, y1, y2, y3, ly⟩ := HX3.out.cells
  go_wp2_with fail
  try rw [hfr]
  clear hfr hfq y0 y1 y2 y3 ly
  refine (specReachedBy_any g _ g.heightsN mc ms fr w3 HX3.out.gi HM3.out).mono ?_
  rintro e w4 ⟨v, rfl, hown, hb4⟩
  rw [HE.out.run]
  rw [reachA_run HE.out.run, HRR.out] at hown
  obtain ⟨RA, rc, rfl, _, _, hrsl⟩ := hown.slice i64cells_len
  obtain ⟨rl, hrl⟩ : ∃ rl, R.length = rl := ⟨_, rfl⟩
  rw [hrl] at hrsl ⊢
  have HR4 := Lib.hid hrsl
  have HA4 := Lib.hid (HA3.out.below hb4)
  have HM4 := Lib.hid (HM3.out.below hb4)
  have HX4 := Lib.hid (HX3.out.grow hb4)
  have HB4 := Lib.hid (HB3.out.trans (hb4.mono HB3.out.size))
  clear hown hb4 hrl hrsl
  obtain ⟨y0, y1, y2, y3, ly⟩ := HX4.out.cells
  go_wp2_with fail
  clear y0 y1 y2 y3 ly
  refine (specRunMass_any g _ g.heightsN mc ms fr w4 HX4.out.gi HM4.out).mono ?_
  rintro e w5 ⟨v, rfl, hown, hb5⟩
  rw [HE.out.run]
  rw [massR_run HE.out.run, HSS.out] at hown
  obtain ⟨SA, sc, rfl, _, _, hssl⟩ := hown.slice i64cells_len
  rw [HE.out.slen, HML.out] at hssl ⊢
  obtain ⟨sa, so, _, rfl, _, _⟩ := ints_at hssl (show 0 < g.heightsN by omega)
  obtain ⟨MN, hMN⟩ : ∃ MN, massN g.val ms fr = MN := ⟨_, rfl⟩
  rw [hMN]
  have HS5 := Lib.hid hssl
  have HR5 := Lib.hid (HR4.out.below hb5)
  have HA5 := Lib.hid (HA4.out.below hb5)
  have HM5 := Lib.hid (HM4.out.below hb5)
  have HX5 := Lib.hid (HX4.out.grow hb5)
  have HB5 := Lib.hid (HB4.out.trans (hb5.mono HB4.out.size))
  clear hown hb5 hssl hMN
  obtain ⟨y0, y1, y2, y3, ly⟩ := HX5.out.cells
  go_wp2_with fail
  clear y0 y1 y2 y3 ly
  refine (implExposedAssets_any g AA an ac xs RA rl rc R w5 HX5.out.gi HA5.out HXG.out HR5.out).mono ?_
  rintro e w6 ⟨v, rfl, hown, hb6⟩
  have hea : exposedA g.val xs R = exposedT R xs an := by unfold exposedA; rw [if_pos HE.out.expose, HAN.out]
  rw [HE.out.expose]
  rw [hea] at hown
  obtain ⟨EA, ec, rfl, _, _, hesl⟩ := hown.slice i64cells_len
  obtain ⟨EL, hEL⟩ : ∃ EL, exposedT R xs an = EL := ⟨_, rfl⟩
  have HEL := Lib.hid hEL
  rw [hEL] at hesl ⊢
  obtain ⟨el, hel⟩ : ∃ el, EL.length = el := ⟨_, rfl⟩
  have HELL := Lib.hid hel
  rw [hel] at hesl ⊢
  have HE6 := Lib.hid hesl
  have HS6 := Lib.hid (HS5.out.below hb6)
  have HR6 := Lib.hid (HR5.out.below hb6)
  have HA6 := Lib.hid (HA5.out.below hb6)
  have HM6 := Lib.hid (HM5.out.below hb6)
  have HX6 := Lib.hid (HX5.out.grow hb6)
  have HB6 := Lib.hid (HB5.out.trans (hb6.mono HB5.out.size))
  clear hown hb6 hea hesl hEL hel
  obtain ⟨y0, y1, y2, y3, ly⟩ := HX6.out.cells
  go_wp2_with fail
  clear y0 y1 y2 y3 ly
  refine (implExposedWorth_any g AA an ac xs RA rl rc R w6 HX6.out.gi HA6.out HXG.out HR6.out).mono ?_
  rintro e w7 ⟨rfl, hb7⟩
  have hwa : worthA g.val xs R = worthT R xs an := by unfold worthA; rw [if_pos HE.out.expose, HAN.out]
  rw [HE.out.expose, hwa]
  obtain ⟨WT, hWT⟩ : ∃ WT, worthT R xs an = WT := ⟨_, rfl⟩
  rw [hWT]
  have HWT := Lib.hid hWT
  have HE7 := Lib.hid (HE6.out.below hb7)
  have HS7 := Lib.hid (HS6.out.below hb7)
  have HR7 := Lib.hid (HR6.out.below hb7)
  have HA7 := Lib.hid (HA6.out.below hb7)
  have HM7 := Lib.hid (HM6.out.below hb7)
  have HX7 := Lib.hid (HX6.out.grow hb7)
  have HB7 := Lib.hid (HB6.out.trans (hb7.mono HB6.out.size))
  clear hb7 hwa hWT
  have HCG : Hid (cellsG g.val R = true) := by
    have h := HE.out.expose
    unfold exposeC at h
    rw [if_neg (by rw [HAS.out]; simp)] at h
    rw [Hid]
    cases hc : cellsG g.val R
    · rw [if_pos hc] at h; cases h
    · rfl
  obtain ⟨y0, y1, y2, y3, ly⟩ := HX7.out.cells
  go_wp2_with fail
  clear y0 y1 y2 y3 ly
  refine (implSafeCells_ok g RA rl rc R w7 HX7.out.gi HGB.out hn64' HCG.out HR7.out).mono ?_
  rintro e w8 ⟨v, rfl, hown, hb8⟩
  obtain ⟨FA, fc, rfl, _, _, hfsl⟩ := hown.slice i64cells_len
  obtain ⟨FL, hFL⟩ : ∃ FL, safeT R g.heightsN = FL := ⟨_, rfl⟩
  have HFL := Lib.hid hFL
  rw [hFL] at hfsl ⊢
  obtain ⟨fl, hfl⟩ : ∃ fl, FL.length = fl := ⟨_, rfl⟩
  rw [hfl] at hfsl ⊢
  have HF8 := Lib.hid hfsl
  have HE8 := Lib.hid (HE7.out.below hb8)
  have HS8 := Lib.hid (HS7.out.below hb8)
  have HR8 := Lib.hid (HR7.out.below hb8)
  have HA8 := Lib.hid (HA7.out.below hb8)
  have HM8 := Lib.hid (HM7.out.below hb8)
  have HX8 := Lib.hid (HX7.out.grow hb8)
  have HB8 := Lib.hid (HB7.out.trans (hb8.mono HB7.out.size))
  clear hown hb8 hfsl hFL hfl
  obtain ⟨y0, y1, y2, y3, ly⟩ := HX8.out.cells
  go_wp2_with fail
  clear y0 y1 y2 y3 ly
  refine (implBuriedBy_any g AA an ac xs _ g.heightsN sc S w8 HX8.out.gi HA8.out HXG.out HS8.out).mono ?_
  rintro e w9 ⟨v, rfl, hown, hb9⟩
  have hba : buriedA g.val xs S = buriedT S xs an := by unfold buriedA; rw [if_pos HE.out.buried, HAN.out]
  rw [HE.out.buried]
  rw [hba] at hown
  obtain ⟨BA, bc, rfl, _, _, hbsl⟩ := hown.slice i64cells_len
  rw [buriedT_len (Nat.le_of_eq HAN.out.symm)] at hbsl ⊢
  have HG9 := Lib.hid hbsl
  have HF9 := Lib.hid (HF8.out.below hb9)
  have HE9 := Lib.hid (HE8.out.below hb9)
  have HS9 := Lib.hid (HS8.out.below hb9)
  have HR9 := Lib.hid (HR8.out.below hb9)
  have HA9 := Lib.hid (HA8.out.below hb9)
  have HM9 := Lib.hid (HM8.out.below hb9)
  have HX9 := Lib.hid (HX8.out.grow hb9)
  have HB9 := Lib.hid (HB8.out.trans (hb9.mono HB8.out.size))
  clear hown hb9 hba hbsl
  obtain ⟨y0, y1, y2, y3, ly⟩ := HX9.out.cells
  go_wp2_with fail
  clear y0 y1 y2 y3 ly
  refine (implFirstHit_any g AA an ac xs _ g.heightsN mc ms fr w9 HX9.out.gi HA9.out HXG.out HM9.out).mono ?_
  rintro e w10 ⟨rfl, hb10⟩
  rw [HHK.out, HHA.out, HHW.out]
  have HG10 := Lib.hid (HG9.out.below hb10)
  have HF10 := Lib.hid (HF9.out.below hb10)
  have HE10 := Lib.hid (HE9.out.below hb10)
  have HS10 := Lib.hid (HS9.out.below hb10)
  have HR10 := Lib.hid (HR9.out.below hb10)
  have HA10 := Lib.hid (HA9.out.below hb10)
  have HM10 := Lib.hid (HM9.out.below hb10)
  have HX10 := Lib.hid (HX9.out.grow hb10)
  have HB10 := Lib.hid (HB9.out.trans (hb10.mono HB9.out.size))
  clear hb10
  have hele : (HK == 0) = decide (0 < (el : Int)) := by
    rcases HE.out.hit with ⟨h1, h2⟩ | ⟨h1, h2, _⟩
    · rw [h1, ← HELL.out, ← HEL.out, ← HAN.out, h2]; rfl
    · rw [HAN.out, HEL.out, HELL.out] at h2
      rw [h1, decide_eq_true (by omega)]; rfl
  have hann : ((an : Int) != (an : Int)) = false := by simp
  obtain ⟨y0, y1, y2, y3, ly⟩ := HX10.out.cells
  have hel0 := HE10.out.le
  go_wp2_with fail
  clear y0 y1 y2 y3 ly
  refine (implValidAssets_any g AA an ac xs w10 HX10.out.gi HA10.out HXG.out).mono ?_
  rintro e w11 ⟨rfl, hb11⟩
  rw [HAS.out]
  have HG11 := Lib.hid (HG10.out.below hb11)
  have HF11 := Lib.hid (HF10.out.below hb11)
  have HE11 := Lib.hid (HE10.out.below hb11)
  have HS11 := Lib.hid (HS10.out.below hb11)
  have HR11 := Lib.hid (HR10.out.below hb11)
  have HA11 := Lib.hid (HA10.out.below hb11)
  have HM11 := Lib.hid (HM10.out.below hb11)
  have HX11 := Lib.hid (HX10.out.grow hb11)
  have HB11 := Lib.hid (HB10.out.trans (hb11.mono HB10.out.size))
  clear hb11
  go_wp2
  clear hann hele
  have hRL := HR11.out.le
  have hFLn := HF11.out.le
  go_loopg [25] g.heightsN (fun gk i wr => ∃ k : Nat, k ≤ g.heightsN ∧ gk = g.heightsN - k ∧ i = .int .i64 k ∧ w11 = wr)
  case atStart => exact ⟨0, Nat.zero_le _, rfl, rfl, rfl⟩
  case round =>
    obtain ⟨k, hk, hgk, rfl, rfl⟩ := hrel
    have Hgk := Lib.hid hgk
    clear hgk
    obtain ⟨y0, y1, y2, y3, ly⟩ := HX11.out.cells
    by_cases hlt : k < g.heightsN
    · have hsf : hasQ FL k = !hasQ R k := by rw [← HFL.out, safe_has hlt, hasB_hasQ]
      have HSF := Lib.hid hsf
      clear hsf
      go_wp2_with fail
      refine (r8Has_any FA fl fc FL (k : Int) w11 HF11.out).mono ?_
      rintro e w' ⟨rfl, rfl⟩
      rw [HSF.out]
      go_wp2_with fail
      refine (r8Has_any RA rl rc R (k : Int) w11 HR11.out).mono ?_
      rintro e w' ⟨rfl, rfl⟩
      cases hh : hasQ R k
      · have hdd : ((!false) == false) = false := rfl
        go_wp2
        go_roundg (g.heightsN - (k + 1))
        case measure => have := Hgk.out; omega
        case rel => exact ⟨k + 1, by omega, rfl, by go_num, rfl⟩
      · have hdd : ((!true) == true) = false := rfl
        go_wp2
        go_roundg (g.heightsN - (k + 1))
        case measure => have := Hgk.out; omega
        case rel => exact ⟨k + 1, by omega, rfl, by go_num, rfl⟩
    have hkn : k = g.heightsN := by omega
    have hkm : ¬ ((k : Int) < (g.heightsN : Int)) := by omega
    clear hkn hk
    go_wp2
    clear y0 y1 y2 y3 ly hkm
    go_loopg [26, 27] an (fun gk s i wr => ∃ (k : Nat) (q : Int), k ≤ an ∧ gk = an - k ∧ s = .int .i64 q ∧ i = .int .i64 k ∧ worthT R xs k = q ∧ 0 ≤ q ∧ q ≤ 1000000 * k ∧ Below w11.heap.size w11 wr)
    case atStart => exact ⟨0, 0, Nat.zero_le _, rfl, rfl, rfl, rfl, by omega, by omega, Below.refl _ _⟩
    case round =>
      obtain ⟨k, q, hk, hgk, rfl, rfl, hq, hq0, hq1, hb⟩ := hrel
      have Hgk := Lib.hid hgk
      have HQ := Lib.hid hq
      have HBB := Lib.hid hb
      clear hgk hq hb
      by_cases hlt : k < an
      rotate_left
      · have hkn : k = an := by omega
        subst hkn
        have hqw : (q == WT) = true := by rw [← HQ.out, HWT.out]; simp
        rcases HE.out.hit with ⟨h1, _⟩ | ⟨h1, _, j, x, h2, h3, _⟩
        · subst h1
          go_wp2
          go_ret
          exact Ret.b rfl (HB11.out.trans (HBB.out.mono HB11.out.size))
        · subst h1 h2
          have hjn : j < k := by rw [HAN.out] at h3; exact h3
          go_wp2
          go_ret
          exact Ret.b (by first | (simp; done) | (simp; omega)) (HB11.out.trans (HBB.out.mono HB11.out.size))
      obtain ⟨ba, oa, x, rfl, hba, hxk, hix, x0, x1, x2⟩ := (HA11.out.below HBB.out).at_ hlt
      have Hxk := Lib.hid hxk
      have hgood := HXG.out x.val (List.mem_of_getElem? hxk)
      have HGOOD := Lib.hid hgood
      have hfN : x.val.fitsB (g.heightsN : Int) = true := by rw [← HGL.out]; exact assetsB_fits HAS.out hxk
      have HFIT : Hid (x.val.fitsB 64 = true) := fits_up hfN (by omega)
      have HSPI : Hid (∀ y ∈ x.val.spots, ∃ c : Nat, y = c ∧ c < g.heightsN) := fun y hy => by
        have h := (fitsB_parts hfN).2.2.1 y hy
        exact ⟨y.toNat, by omega, by omega⟩
      have HWB : Hid (0 ≤ x.worth ∧ x.worth ≤ 1000000) := (fitsB_parts hfN).2.2.2
      obtain ⟨sp, hsp⟩ : ∃ sp, x.val.spots = sp := ⟨_, rfl⟩
      have HSP := Lib.hid hsp
      have HSL : Hid (SliceOf wr 1 i64cells x.spotsA x.spotsN sp) := by rw [Hid, ← hsp]; exact hix.1
      obtain ⟨p, hp⟩ : ∃ p, x.spotsN = p := ⟨_, rfl⟩
      have HPN := Lib.hid hp
      have HSPL : Hid (sp.length = p) := by rw [Hid, HSL.out.len, hp]
      have hp64 : p ≤ 64 := by
        have h := (assetOk HFIT.out).len
        rw [hsp, HSPL.out] at h
        exact h
      have HIX := Lib.hid hix
      have HX0 := Lib.hid x0
      have HX1 := Lib.hid x1
      have HX2 := Lib.hid x2
      have HBA := Lib.hid hba
      have HFST : Hid (hitB R x.val = decide (0 ≤ firstT ts x.val.spots)) := HE.out.first k x.val hxk
      have hsp0 : 0 < p := by
        have h := (fitsB_parts hfN).1
        rw [hsp, HSPL.out] at h
        exact h
      have hsl := HSL.out
      rw [hp] at hsl x1
      obtain ⟨bs, os, _, hSA, hbs, _, _⟩ := ints_at hsl hsp0
      have HSA := Lib.hid hSA
      rw [hSA] at hsl x1
      have HSLs := Lib.hid hsl
      have HX1s := Lib.hid x1
      clear hxk hix x0 x2 hba hgood hfN hsp hsl hbs hSA hp
      go_wp2
      clear x1
      go_loopg [28, 29, 30, 31] p (fun gk s28 s29 s30 s31 wx => ∃ (j : Nat) (b : Bool) (m f : Int), j ≤ p ∧ gk = p - j ∧ s28 = .bool b ∧ s29 = .int .i64 m ∧ s30 = .int .i64 f ∧ s31 = .int .i64 j ∧ (sp.take j).any (hasB R) = b ∧ sumAt S (sp.take j) = m ∧ firstT ts (sp.take j) = f ∧ 0 ≤ m ∧ m ≤ 1000000 * j ∧ Below wr.heap.size wr wx)
      case atStart => exact ⟨0, false, 0, -1, Nat.zero_le _, rfl, rfl, rfl, rfl, rfl, rfl, rfl, rfl, by omega, by omega, Below.refl _ _⟩
      case round =>
        obtain ⟨j, b, m, f, hj, hgj, rfl, rfl, rfl, rfl, hbb, hmm, hff, hm0, hm1, hbx⟩ := hrel
        have Hgj := Lib.hid hgj
        have HBv := Lib.hid hbb
        have HMv := Lib.hid hmm
        have HFv := Lib.hid hff
        have HBX2 := Lib.hid hbx
        have HM0 : Hid (0 ≤ m ∧ m ≤ 1000000 * j) := ⟨hm0, hm1⟩
        have x1 := (hbx.cell (p := ⟨ba, oa + k * 3 + 1, none⟩) HBA.out).trans HX1s.out
        have lba : ba < wr.heap.size := Nat.lt_of_lt_of_le HBA.out hbx.size
        have HBW2 := Lib.hid (HBB.out.trans (hbx.mono HBB.out.size))
        clear hgj hbb hmm hff hbx hm0 hm1
        by_cases hjp : j < p
        · obtain ⟨y, hy, yc, ly2⟩ := intsD (HSLs.out.below HBX2.out) hjp
          obtain ⟨c, rfl, hcN⟩ := HSPI.out y (by rw [HSP.out]; exact List.mem_of_getElem? hy)
          obtain ⟨st, hst, sc0, ls⟩ := intsD (HS11.out.below HBW2.out) hcN
          obtain ⟨t, htt⟩ : ∃ t, ts[c]? = some t := ⟨_, List.getElem?_eq_getElem (by rw [HE.out.tlen, HML.out]; exact hcN)⟩
          have hstep := cell_step (R := R) hy hst htt HBv.out HMv.out HFv.out
          have HSTEP := Lib.hid hstep
          have hsb := HE.out.sbd st (List.mem_of_getElem? hst)
          have HSB := Lib.hid hsb
          have hmb := HM0.out
          have hw : IntKind.i64.wrap (m + st) = m + st := IntWalk.i64_in _ (by omega)
          have HTT := Lib.hid htt
          obtain ⟨hq, hhq⟩ : ∃ hq, hasQ R (c : Int) = hq := ⟨_, rfl⟩
          have HHQ := Lib.hid hhq
          clear hy hst htt hstep hhq hmb hsb
          obtain ⟨hh, hhh⟩ : ∃ hh, (b || hq) = hh := ⟨_, rfl⟩
          have HHH := Lib.hid hhh
          have HS1 : Hid ((sp.take (j + 1)).any (hasB R) = hh) := by rw [Hid, HSTEP.out.1, HHQ.out, HHH.out]
          clear hhh
          obtain ⟨y0, y1, y2, y3, ly⟩ := (HX11.out.grow HBW2.out).cells
          have hR11 := HR11.out.below HBW2.out
          have hM11 := HM11.out.below HBW2.out
          have hgi := (HX11.out.grow HBW2.out).gi
          have HRx := Lib.hid hR11
          have HMx := Lib.hid hM11
          have HGx := Lib.hid hgi
          have hpp : p ≤ 9223372036854775807 := by omega
          clear hR11 hM11 hgi
          obtain ⟨qv, kv, hv⟩ : ∃ qv kv : Int, (0 ≤ t ∧ qv = t ∧ kv = 0) ∨ (¬ 0 ≤ t ∧ qv = 0 ∧ kv = 3) := by
            by_cases h0 : 0 ≤ t
            · exact ⟨t, 0, .inl ⟨h0, rfl, rfl⟩⟩
            · exact ⟨0, 3, .inr ⟨h0, rfl, rfl⟩⟩
          have HV := Lib.hid hv
          have hcall : ∀ v : Sub wr, Calls Tryz.prog 18 #[.agg #[.int .i64 g.rows, .int .i64 g.columns, .int .i64 g.size, .slice g.heightsA g.heightsN g.heightsC], .slice (some ⟨ma, mo, none⟩) g.heightsN mc, .int .i64 fr, .int .i64 c] v.val (Ret (.tuple #[.int .i64 qv, .int .i64 kv]) v.val) := fun v =>
            specArrivalOf_ok g _ g.heightsN mc ms fr c t qv kv v.val (HGx.out.below v.below) (HMx.out.below v.below) HE.out.run hcN (by rw [HTS.out]; exact HTT.out) HV.out
          have HCALL := Lib.hid hcall
          clear hv hcall
          cases b
          · as_aux_lemma =>
            have hhe : hq = hh := by have := HHH.out; simpa using this
            go_wp2_with (go_at_call 17; refine (r8Has_any RA rl rc R (c : Int) _ HRx.out).mono ?_; rintro e w' ⟨rfl, rfl⟩; rw [HHQ.out, hhe])
            have hcall := HCALL.out
            have hsub := fun (v : Sub wr) b o (h : b < wr.heap.size) => v.cell b o h
            refine wp_region_sub (by kernel_rfl) (by kernel_rfl) ?_
            repeat (go_big_quiet_step (exact Calls.sub_of (hcall _)))
            refine wpQuiet_nil ?_
            intro wg hg
            have HBX3 := Lib.hid (HBX2.out.trans (hg.mono HBX2.out.size))
            clear hcall hsub y0 y1 y2 y3 ly x1 lba yc ly2 sc0 ls hw hg
            rcases HV.out with ⟨h0, rfl, rfl⟩ | ⟨h0, rfl, rfl⟩
            · by_cases hf0 : f < 0
              · have hd : decide (f < 0) = true := decide_eq_true hf0
                have HSF : Hid (firstT ts (sp.take (j + 1)) = qv) := by rw [Hid, HSTEP.out.2.2]; exact firstF_yes h0 (.inl hf0)
                go_wp2
                go_roundg (p - (j + 1))
                case measure => have := Hgj.out; omega
                case rel => exact ⟨j + 1, hh, m + st, qv, by omega, rfl, rfl, rfl, rfl, by go_num, HS1.out, HSTEP.out.2.1, HSF.out, by have := HM0.out; have := HSB.out; omega, by have := HM0.out; have := HSB.out; omega, HBX3.out⟩
              · have hd : decide (f < 0) = false := decide_eq_false hf0
                by_cases htf : qv < f
                · have hd2 : decide (qv < f) = true := decide_eq_true htf
                  have HSF : Hid (firstT ts (sp.take (j + 1)) = qv) := by rw [Hid, HSTEP.out.2.2]; exact firstF_yes h0 (.inr htf)
                  go_wp2
                  go_roundg (p - (j + 1))
                  case measure => have := Hgj.out; omega
                  case rel => exact ⟨j + 1, hh, m + st, qv, by omega, rfl, rfl, rfl, rfl, by go_num, HS1.out, HSTEP.out.2.1, HSF.out, by have := HM0.out; have := HSB.out; omega, by have := HM0.out; have := HSB.out; omega, HBX3.out⟩
                · have hd2 : decide (qv < f) = false := decide_eq_false htf
                  have HSF : Hid (firstT ts (sp.take (j + 1)) = f) := by rw [Hid, HSTEP.out.2.2]; exact firstF_no (by omega)
                  go_wp2
                  go_roundg (p - (j + 1))
                  case measure => have := Hgj.out; omega
                  case rel => exact ⟨j + 1, hh, m + st, f, by omega, rfl, rfl, rfl, rfl, by go_num, HS1.out, HSTEP.out.2.1, HSF.out, by have := HM0.out; have := HSB.out; omega, by have := HM0.out; have := HSB.out; omega, HBX3.out⟩
            · have HSF : Hid (firstT ts (sp.take (j + 1)) = f) := by rw [Hid, HSTEP.out.2.2]; exact firstF_no (by omega)
              go_wp2
              go_roundg (p - (j + 1))
              case measure => have := Hgj.out; omega
              case rel => exact ⟨j + 1, hh, m + st, f, by omega, rfl, rfl, rfl, rfl, by go_num, HS1.out, HSTEP.out.2.1, HSF.out, by have := HM0.out; have := HSB.out; omega, by have := HM0.out; have := HSB.out; omega, HBX3.out⟩
          · as_aux_lemma =>
            have hhe : hh = true := by have := HHH.out; simpa using this.symm
            subst hhe
            go_wp2_with fail
            have hcall := HCALL.out
            have hsub := fun (v : Sub wr) b o (h : b < wr.heap.size) => v.cell b o h
            refine wp_region_sub (by kernel_rfl) (by kernel_rfl) ?_
            repeat (go_big_quiet_step (exact Calls.sub_of (hcall _)))
            refine wpQuiet_nil ?_
            intro wg hg
            have HBX3 := Lib.hid (HBX2.out.trans (hg.mono HBX2.out.size))
            clear hcall hsub y0 y1 y2 y3 ly x1 lba yc ly2 sc0 ls hw hg
            rcases HV.out with ⟨h0, rfl, rfl⟩ | ⟨h0, rfl, rfl⟩
            · by_cases hf0 : f < 0
              · have hd : decide (f < 0) = true := decide_eq_true hf0
                have HSF : Hid (firstT ts (sp.take (j + 1)) = qv) := by rw [Hid, HSTEP.out.2.2]; exact firstF_yes h0 (.inl hf0)
                go_wp2
                go_roundg (p - (j + 1))
                case measure => have := Hgj.out; omega
                case rel => exact ⟨j + 1, true, m + st, qv, by omega, rfl, rfl, rfl, rfl, by go_num, HS1.out, HSTEP.out.2.1, HSF.out, by have := HM0.out; have := HSB.out; omega, by have := HM0.out; have := HSB.out; omega, HBX3.out⟩
              · have hd : decide (f < 0) = false := decide_eq_false hf0
                by_cases htf : qv < f
                · have hd2 : decide (qv < f) = true := decide_eq_true htf
                  have HSF : Hid (firstT ts (sp.take (j + 1)) = qv) := by rw [Hid, HSTEP.out.2.2]; exact firstF_yes h0 (.inr htf)
                  go_wp2
                  go_roundg (p - (j + 1))
                  case measure => have := Hgj.out; omega
                  case rel => exact ⟨j + 1, true, m + st, qv, by omega, rfl, rfl, rfl, rfl, by go_num, HS1.out, HSTEP.out.2.1, HSF.out, by have := HM0.out; have := HSB.out; omega, by have := HM0.out; have := HSB.out; omega, HBX3.out⟩
                · have hd2 : decide (qv < f) = false := decide_eq_false htf
                  have HSF : Hid (firstT ts (sp.take (j + 1)) = f) := by rw [Hid, HSTEP.out.2.2]; exact firstF_no (by omega)
                  go_wp2
                  go_roundg (p - (j + 1))
                  case measure => have := Hgj.out; omega
                  case rel => exact ⟨j + 1, true, m + st, f, by omega, rfl, rfl, rfl, rfl, by go_num, HS1.out, HSTEP.out.2.1, HSF.out, by have := HM0.out; have := HSB.out; omega, by have := HM0.out; have := HSB.out; omega, HBX3.out⟩
            · have HSF : Hid (firstT ts (sp.take (j + 1)) = f) := by rw [Hid, HSTEP.out.2.2]; exact firstF_no (by omega)
              go_wp2
              go_roundg (p - (j + 1))
              case measure => have := Hgj.out; omega
              case rel => exact ⟨j + 1, true, m + st, f, by omega, rfl, rfl, rfl, rfl, by go_num, HS1.out, HSTEP.out.2.1, HSF.out, by have := HM0.out; have := HSB.out; omega, by have := HM0.out; have := HSB.out; omega, HBX3.out⟩
        · have hjp2 : j = p := by omega
          have htk : sp.take j = sp := List.take_of_length_le (by rw [HSPL.out]; omega)
          have HBE : Hid (hitB R x.val = b) := by
            have h := HBv.out
            rw [htk, ← HSP.out] at h
            exact h
          have HME : Hid (sumAt S x.val.spots = m) := by
            have h := HMv.out
            rw [htk] at h
            rw [Hid, HSP.out]; exact h
          have HFE : Hid (firstT ts x.val.spots = f) := by
            have h := HFv.out
            rw [htk] at h
            rw [Hid, HSP.out]; exact h
          have x0 := (HBX2.out.cell (p := ⟨ba, oa + k * 3, none⟩) HBA.out).trans HX0.out
          have x2 := (HBX2.out.cell (p := ⟨ba, oa + k * 3 + 2, none⟩) HBA.out).trans HX2.out
          have hbf : b = decide (0 ≤ f) := by rw [← HBE.out, HFST.out, HFE.out]
          have HBF := Lib.hid hbf
          have hjm : ¬ ((j : Int) < (p : Int)) := by omega
          have HIXr := Lib.hid (HIX.out.below HBX2.out)
          have hwb := HWB.out
          have hqw : IntKind.i64.wrap (q + x.worth) = q + x.worth := IntWalk.i64_in _ (by omega)
          obtain ⟨q2, hq2⟩ : ∃ q2, worthT R xs (k + 1) = q2 := ⟨_, rfl⟩
          have HQ2 := Lib.hid hq2
          have HLr : Hid (LibAt wr.heap.size wr) := HLB.out.grow (HB11.out.trans (HBW2.out.mono HB11.out.size))
          have hct := implAssetText_any x wr HIXr.out (by have h := (assetOk HFIT.out).id; have h2 : x.id.size ≤ 10 := h; omega) HLr.out.tab
          rw [HSA.out, HPN.out, show assetTextA x.val = assetText x.val by unfold assetTextA; rw [if_pos HFIT.out]] at hct
          have HCT := Lib.hid hct
          have hq2b : 0 ≤ q2 ∧ q2 ≤ 1000000 * ((k : Int) + 1) := by
            cases hb2 : hitB R x.val
            · rw [← hq2, worthT_no Hxk.out hb2, HQ.out]; omega
            · rw [← hq2, worthT_hit Hxk.out hb2, HQ.out]
              have h2 : 0 ≤ x.val.worth ∧ x.val.worth ≤ 1000000 := hwb
              omega
          have HQ2B := Lib.hid hq2b
          clear hjp2 hjp htk hct hq2b hbf hq2
          cases b
          · have HQE : Hid (q2 = q) := by rw [Hid, ← HQ2.out, worthT_no Hxk.out HBE.out, HQ.out]
            go_wp2_with fail
            refine HCT.out.mono ?_
            rintro e w2 ⟨rfl, hb2⟩
            have HL2 := Lib.hid (HLr.out.grow hb2)
            have HB2x := Lib.hid hb2
            clear hb2
            go_wp2_with fail
            clear x0 x1 x2 lba hjm hqw
            refine (implReadAsset_any (assetText x.val) w2 (assetText_size HFIT.out) HL2.out).mono ?_
            rintro e w3 ⟨rp, rr, rfl, hro⟩
            obtain ⟨hsm, hpv⟩ := asset_back HFIT.out hro
            rw [hsm]
            have hpid : rp.id = x.id := congrArg Asset.id hpv
            have hpw : rp.worth = x.worth := congrArg Asset.worth hpv
            have hps : rp.spots = sp := (congrArg Asset.spots hpv).trans HSP.out
            have hrs := hro.own.sl i64cells_len
            obtain ⟨QA, hQA⟩ : ∃ QA, rp.spotsA = QA := ⟨_, rfl⟩
            obtain ⟨QC, hQC⟩ : ∃ QC, rp.spotsC = QC := ⟨_, rfl⟩
            have hQN : rp.spotsN = p := by rw [← hrs.len, hps, HSPL.out]
            rw [hps, hQA, hQN] at hrs
            rw [hpid, hpw, hQA, hQN, hQC]
            obtain ⟨Z, hZ⟩ : ∃ Z, w3.heap.size = Z := ⟨_, rfl⟩
            obtain ⟨w4, hw4⟩ : ∃ w4, w3.alloc (.cells #[.string x.id, .slice QA p QC, .int .i64 x.worth] 45) = w4 := ⟨_, rfl⟩
            have hb4 : Below w3.heap.size w3 w4 := by rw [← hw4]; exact (Below.refl _ _).alloc (Nat.le_refl _) _
            have HZ4 : Hid (Own w4 Z 45 #[.string x.id, .slice QA p QC, .int .i64 x.worth]) := by rw [Hid, ← hw4, ← hZ]; exact Own.new _ _ _
            have HQ4 := Lib.hid (hrs.below hb4)
            have HB34 : Hid (Below wr.heap.size wr w4) := (HB2x.out.trans (hro.below.mono HB2x.out.size)).trans (hb4.mono (Nat.le_trans HB2x.out.size hro.below.size))
            have HB4 := Lib.hid (HBX2.out.trans (HB34.out.mono HBX2.out.size))
            have HBW4 := Lib.hid (HBB.out.trans (HB4.out.mono HBB.out.size))
            have HEH : Hid (hasQ EL (k : Int) = false) := by rw [Hid, ← HEL.out, exposed_has hlt Hxk.out, HBE.out]
            have HZZ := Lib.hid hZ
            have HWW := Lib.hid hw4
            clear hsm hpv hro hpid hpw hps hrs hQA hQC hQN hb4 hZ hw4
            have HG4 := HG11.out.below HBW4.out
            obtain ⟨bb, ob, z, rfl, hbb, hzz, zc⟩ := ints_at HG4 hlt
            have hzm : z = m := by
              have h := hzz
              rw [show buriedT S xs an = xs.map (fun x => sumAt S x.spots) by unfold buriedT; rw [List.take_of_length_le (Nat.le_of_eq HAN.out)], List.getElem?_map, Hxk.out] at h
              injection h with h
              rw [← h]; exact HME.out
            subst hzm
            have x0 := (HB4.out.cell (p := ⟨ba, oa + k * 3, none⟩) HBA.out).trans HX0.out
            have x1 := (HB4.out.cell (p := ⟨ba, oa + k * 3 + 1, none⟩) HBA.out).trans HX1s.out
            have x2 := (HB4.out.cell (p := ⟨ba, oa + k * 3 + 2, none⟩) HBA.out).trans HX2.out
            have lba : ba < w4.heap.size := Nat.lt_of_lt_of_le HBA.out HB4.out.size
            have r0 := HZ4.out.cell 0
            have r1 := HZ4.out.cell 1
            have r2 := HZ4.out.cell 2
            have lz := HZ4.out.lt
            simp at r0 r1 r2
            clear HG4 hzz
            go_wp2_with fail
            rw [HWW.out, HZZ.out]
            have hmm : (z != z) = false := by simp
            have hww : (x.worth != x.worth) = false := by simp
            have hSAME : ∀ v : Sub w4, Calls Tryz.prog 21 #[.slice QA p QC, .slice (some ⟨bs, os, none⟩) p x.spotsC] v.val (Ret (.bool true) v.val) := fun v => r8Same_any QA (some ⟨bs, os, none⟩) p QC x.spotsC sp v.val (HQ4.out.below v.below) ((HSLs.out.below HB4.out).below v.below)
            have HSAME := Lib.hid hSAME
            have hHAS : ∀ v : Sub w4, Calls Tryz.prog 17 #[.slice EA el ec, .int .i64 k] v.val (RetS (.bool (hasQ EL (k : Int))) v.val) := fun v => r8Has_any EA el ec EL (k : Int) v.val ((HE11.out.below HBW4.out).below v.below)
            have HHAS := Lib.hid hHAS
            have HREL : Hid (∀ w5 : World, Below w4.heap.size w4 w5 → worthT R xs (k + 1) = q2 ∧ 0 ≤ q2 ∧ q2 ≤ 1000000 * ((k + 1 : Nat) : Int) ∧ Below w11.heap.size w11 w5) := fun w5 h5 => ⟨HQ2.out, HQ2B.out.1, by have := HQ2B.out.2; omega, HBW4.out.trans (h5.mono HBW4.out.size)⟩
            clear hSAME hHAS
            rcases HE.out.hit with ⟨h1, _⟩ | ⟨h1, _, j0, xj, h2, h3, h4, h5, h6, h7⟩
            · as_aux_lemma =>
              subst h1
              have hsub := fun (v : Sub w4) b o (h : b < w4.heap.size) => v.cell b o h
              refine wp_region_sub (by kernel_rfl) (by kernel_rfl) ?_
              repeat (go_big_quiet_step (first | exact Calls.sub_of_same_eq (HHAS.out _) (congrArg Value.bool HEH.out) | exact Calls.sub_of (HSAME.out _)))
              refine wpQuiet_nil ?_
              intro wg hg
              have HB5 := Lib.hid hg
              clear hsub hg x0 x1 x2 lba r0 r1 r2 lz zc hbb
              go_wp2
              go_roundg (an - (k + 1))
              case measure => have := Hgk.out; omega
              case rel => exact ⟨k + 1, q2, by omega, rfl, by first | rfl | rw [HQE.out], by go_num, (HREL.out _ HB5.out).1, (HREL.out _ HB5.out).2.1, (HREL.out _ HB5.out).2.2.1, (HREL.out _ HB5.out).2.2.2⟩
            · as_aux_lemma =>
              subst h1 h2
              have H4 := Lib.hid h4
              have H5 := Lib.hid h5
              have H6 := Lib.hid h6
              have H7 := Lib.hid h7
              clear h3 h4 h5 h6 h7
              have hne : ((k : Int) == (j0 : Int)) = false := by
                rw [beq_eq_false_iff_ne]
                intro e
                have e2 : k = j0 := by omega
                subst e2
                have h := Hxk.out
                rw [H4.out] at h
                injection h with h
                have h9 := HBE.out
                rw [← h, H6.out] at h9
                exact absurd h9 (by simp)
              have hsub := fun (v : Sub w4) b o (h : b < w4.heap.size) => v.cell b o h
              refine wp_region_sub (by kernel_rfl) (by kernel_rfl) ?_
              repeat (go_big_quiet_step (first | exact Calls.sub_of_same_eq (HHAS.out _) (congrArg Value.bool HEH.out) | exact Calls.sub_of (HSAME.out _)))
              refine wpQuiet_nil ?_
              intro wg hg
              have HB5 := Lib.hid hg
              clear hsub hg x0 x1 x2 lba r0 r1 r2 lz zc hbb
              go_wp2
              go_roundg (an - (k + 1))
              case measure => have := Hgk.out; omega
              case rel => exact ⟨k + 1, q2, by omega, rfl, by first | rfl | rw [HQE.out], by go_num, (HREL.out _ HB5.out).1, (HREL.out _ HB5.out).2.1, (HREL.out _ HB5.out).2.2.1, (HREL.out _ HB5.out).2.2.2⟩
          · have HQE : Hid (q2 = q + x.worth) := by rw [Hid, ← HQ2.out, worthT_hit Hxk.out HBE.out, HQ.out]; rfl
            go_wp2_with fail
            refine HCT.out.mono ?_
            rintro e w2 ⟨rfl, hb2⟩
            have HL2 := Lib.hid (HLr.out.grow hb2)
            have HB2x := Lib.hid hb2
            clear hb2
            go_wp2_with fail
            clear x0 x1 x2 lba hjm hqw
            refine (implReadAsset_any (assetText x.val) w2 (assetText_size HFIT.out) HL2.out).mono ?_
            rintro e w3 ⟨rp, rr, rfl, hro⟩
            obtain ⟨hsm, hpv⟩ := asset_back HFIT.out hro
            rw [hsm]
            have hpid : rp.id = x.id := congrArg Asset.id hpv
            have hpw : rp.worth = x.worth := congrArg Asset.worth hpv
            have hps : rp.spots = sp := (congrArg Asset.spots hpv).trans HSP.out
            have hrs := hro.own.sl i64cells_len
            obtain ⟨QA, hQA⟩ : ∃ QA, rp.spotsA = QA := ⟨_, rfl⟩
            obtain ⟨QC, hQC⟩ : ∃ QC, rp.spotsC = QC := ⟨_, rfl⟩
            have hQN : rp.spotsN = p := by rw [← hrs.len, hps, HSPL.out]
            rw [hps, hQA, hQN] at hrs
            rw [hpid, hpw, hQA, hQN, hQC]
            obtain ⟨Z, hZ⟩ : ∃ Z, w3.heap.size = Z := ⟨_, rfl⟩
            obtain ⟨w4, hw4⟩ : ∃ w4, w3.alloc (.cells #[.string x.id, .slice QA p QC, .int .i64 x.worth] 45) = w4 := ⟨_, rfl⟩
            have hb4 : Below w3.heap.size w3 w4 := by rw [← hw4]; exact (Below.refl _ _).alloc (Nat.le_refl _) _
            have HZ4 : Hid (Own w4 Z 45 #[.string x.id, .slice QA p QC, .int .i64 x.worth]) := by rw [Hid, ← hw4, ← hZ]; exact Own.new _ _ _
            have HQ4 := Lib.hid (hrs.below hb4)
            have HB34 : Hid (Below wr.heap.size wr w4) := (HB2x.out.trans (hro.below.mono HB2x.out.size)).trans (hb4.mono (Nat.le_trans HB2x.out.size hro.below.size))
            have HB4 := Lib.hid (HBX2.out.trans (HB34.out.mono HBX2.out.size))
            have HBW4 := Lib.hid (HBB.out.trans (HB4.out.mono HBB.out.size))
            have HEH : Hid (hasQ EL (k : Int) = true) := by rw [Hid, ← HEL.out, exposed_has hlt Hxk.out, HBE.out]
            have HZZ := Lib.hid hZ
            have HWW := Lib.hid hw4
            clear hsm hpv hro hpid hpw hps hrs hQA hQC hQN hb4 hZ hw4
            have HG4 := HG11.out.below HBW4.out
            obtain ⟨bb, ob, z, rfl, hbb, hzz, zc⟩ := ints_at HG4 hlt
            have hzm : z = m := by
              have h := hzz
              rw [show buriedT S xs an = xs.map (fun x => sumAt S x.spots) by unfold buriedT; rw [List.take_of_length_le (Nat.le_of_eq HAN.out)], List.getElem?_map, Hxk.out] at h
              injection h with h
              rw [← h]; exact HME.out
            subst hzm
            have x0 := (HB4.out.cell (p := ⟨ba, oa + k * 3, none⟩) HBA.out).trans HX0.out
            have x1 := (HB4.out.cell (p := ⟨ba, oa + k * 3 + 1, none⟩) HBA.out).trans HX1s.out
            have x2 := (HB4.out.cell (p := ⟨ba, oa + k * 3 + 2, none⟩) HBA.out).trans HX2.out
            have lba : ba < w4.heap.size := Nat.lt_of_lt_of_le HBA.out HB4.out.size
            have r0 := HZ4.out.cell 0
            have r1 := HZ4.out.cell 1
            have r2 := HZ4.out.cell 2
            have lz := HZ4.out.lt
            simp at r0 r1 r2
            clear HG4 hzz
            go_wp2_with fail
            rw [HWW.out, HZZ.out]
            have hmm : (z != z) = false := by simp
            have hww : (x.worth != x.worth) = false := by simp
            have hSAME : ∀ v : Sub w4, Calls Tryz.prog 21 #[.slice QA p QC, .slice (some ⟨bs, os, none⟩) p x.spotsC] v.val (Ret (.bool true) v.val) := fun v => r8Same_any QA (some ⟨bs, os, none⟩) p QC x.spotsC sp v.val (HQ4.out.below v.below) ((HSLs.out.below HB4.out).below v.below)
            have HSAME := Lib.hid hSAME
            have hHAS : ∀ v : Sub w4, Calls Tryz.prog 17 #[.slice EA el ec, .int .i64 k] v.val (RetS (.bool (hasQ EL (k : Int))) v.val) := fun v => r8Has_any EA el ec EL (k : Int) v.val ((HE11.out.below HBW4.out).below v.below)
            have HHAS := Lib.hid hHAS
            have HREL : Hid (∀ w5 : World, Below w4.heap.size w4 w5 → worthT R xs (k + 1) = q2 ∧ 0 ≤ q2 ∧ q2 ≤ 1000000 * ((k + 1 : Nat) : Int) ∧ Below w11.heap.size w11 w5) := fun w5 h5 => ⟨HQ2.out, HQ2B.out.1, by have := HQ2B.out.2; omega, HBW4.out.trans (h5.mono HBW4.out.size)⟩
            clear hSAME hHAS
            rcases HE.out.hit with ⟨h1, _⟩ | ⟨h1, _, j0, xj, h2, h3, h4, h5, h6, h7⟩
            · as_aux_lemma =>
              subst h1
              have hsub := fun (v : Sub w4) b o (h : b < w4.heap.size) => v.cell b o h
              refine wp_region_sub (by kernel_rfl) (by kernel_rfl) ?_
              repeat (go_big_quiet_step (first | exact Calls.sub_of_same_eq (HHAS.out _) (congrArg Value.bool HEH.out) | exact Calls.sub_of (HSAME.out _)))
              refine wpQuiet_nil ?_
              intro wg hg
              have HB5 := Lib.hid hg
              clear hsub hg x0 x1 x2 lba r0 r1 r2 lz zc hbb
              go_wp2
              go_roundg (an - (k + 1))
              case measure => have := Hgk.out; omega
              case rel => exact ⟨k + 1, q2, by omega, rfl, by first | rfl | rw [HQE.out], by go_num, (HREL.out _ HB5.out).1, (HREL.out _ HB5.out).2.1, (HREL.out _ HB5.out).2.2.1, (HREL.out _ HB5.out).2.2.2⟩
            · as_aux_lemma =>
              subst h1 h2
              have H4 := Lib.hid h4
              have H5 := Lib.hid h5
              have H6 := Lib.hid h6
              have H7 := Lib.hid h7
              clear h3 h4 h5 h6 h7
              have hge : HW ≤ f := by rw [← HFE.out]; exact H7.out k x.val Hxk.out HBE.out
              by_cases hnl : f < HW
              · exact absurd hge (by omega)
              clear hge
              by_cases hkj : k = j0
              · have hq : ((k : Int) == (j0 : Int)) = true := by simp [hkj]
                have hfe : f = HW := by
                  subst hkj
                  have h := Hxk.out
                  rw [H4.out] at h
                  injection h with h
                  rw [H5.out, h]; exact HFE.out.symm
                have hfn : (f != HW) = false := by simp [hfe]
                clear hkj hfe
                have hsub := fun (v : Sub w4) b o (h : b < w4.heap.size) => v.cell b o h
                refine wp_region_sub (by kernel_rfl) (by kernel_rfl) ?_
                repeat (go_big_quiet_step (first | exact Calls.sub_of_same_eq (HHAS.out _) (congrArg Value.bool HEH.out) | exact Calls.sub_of (HSAME.out _)))
                refine wpQuiet_nil ?_
                intro wg hg
                have HB5 := Lib.hid hg
                clear hsub hg x0 x1 x2 lba r0 r1 r2 lz zc hbb
                go_wp2
                go_roundg (an - (k + 1))
                case measure => have := Hgk.out; omega
                case rel => exact ⟨k + 1, q2, by omega, rfl, by first | rfl | rw [HQE.out], by go_num, (HREL.out _ HB5.out).1, (HREL.out _ HB5.out).2.1, (HREL.out _ HB5.out).2.2.1, (HREL.out _ HB5.out).2.2.2⟩
              · have hq : ((k : Int) == (j0 : Int)) = false := by
                  rw [beq_eq_false_iff_ne]; omega
                clear hkj
                have hsub := fun (v : Sub w4) b o (h : b < w4.heap.size) => v.cell b o h
                refine wp_region_sub (by kernel_rfl) (by kernel_rfl) ?_
                repeat (go_big_quiet_step (first | exact Calls.sub_of_same_eq (HHAS.out _) (congrArg Value.bool HEH.out) | exact Calls.sub_of (HSAME.out _)))
                refine wpQuiet_nil ?_
                intro wg hg
                have HB5 := Lib.hid hg
                clear hsub hg x0 x1 x2 lba r0 r1 r2 lz zc hbb
                go_wp2
                go_roundg (an - (k + 1))
                case measure => have := Hgk.out; omega
                case rel => exact ⟨k + 1, q2, by omega, rfl, by first | rfl | rw [HQE.out], by go_num, (HREL.out _ HB5.out).1, (HREL.out _ HB5.out).2.1, (HREL.out _ HB5.out).2.2.1, (HREL.out _ HB5.out).2.2.2⟩

end Go.Proofs.YtphapakhoibamaaGreatDoor
