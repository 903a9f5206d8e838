/- ExposedWorth and ExposedAssets of the program and of the reference. -/
import Derived.Test.YthlgfmdlecdchaaBase
import Derived.Test.YthlgfmdlecdchaaMem
import Derived.Test.YthlgfmdlecdchaaTInt64
import Derived.Test.YthlgfmdlecdchaaWithin
import Derived.Test.YthlgfmdlecdchaaTGrid
import Derived.Test.YthlgfmdlecdchaaTAsset
import Derived.Test.YthlgfmdlecdchaaGrids
import Derived.Test.YthlgfmdlecdchaaAssets
import Derived.Test.YthlgfmdlecdchaaHits
namespace Go.Proofs.Ythlgfmdlecdchaa
open Go.RowKit

def cellsG (g : Grid) (re : List Int) : Bool := cellsB 0 ((g.heights.length : Int) - 1) re
def exposeC (g : Grid) (xs : List Asset) (re : List Int) : Int := if assetsB g xs = false then 1 else if cellsG g re = false then 7 else 0
def exposedT (re : List Int) (xs : List Asset) (k : Nat) : List Int := ((List.range k).filter fun i => (xs[i]?).any (hitB re)).map Int.ofNat
def worthAt (xs : List Asset) (i : Int) : Int := match xs[i.toNat]? with | some x => x.worth | none => 0
def worthT (re : List Int) (xs : List Asset) (k : Nat) : Int := ((exposedT re xs k).map (worthAt xs)).sum
section
variable {re : List Int} {xs : List Asset} {k : Nat} {x : Asset}
theorem exposedT_hit (hx : xs[k]? = some x) (h : hitB re x = true) : exposedT re xs (k + 1) = exposedT re xs k ++ [(k : Int)] := by
  unfold exposedT; rw [List.range_succ, List.filter_append, List.map_append]; simp [hx, h]
theorem exposedT_no (hx : xs[k]? = some x) (h : hitB re x = false) : exposedT re xs (k + 1) = exposedT re xs k := by
  unfold exposedT; rw [List.range_succ, List.filter_append, List.map_append]; simp [hx, h]
theorem exposedT_len (re : List Int) (xs : List Asset) (k : Nat) : (exposedT re xs k).length ≤ k := by
  unfold exposedT; rw [List.length_map]; exact Nat.le_trans (List.length_filter_le _ _) (by simp)
theorem exposedT_mem {i : Int} (h : i ∈ exposedT re xs k) : ∃ (j : Nat) (x : Asset), i = j ∧ j < k ∧ xs[j]? = some x := by
  unfold exposedT at h
  obtain ⟨j, hj, rfl⟩ := List.mem_map.1 h
  rw [List.mem_filter, List.mem_range] at hj
  obtain ⟨h1, h2⟩ := hj
  cases hx : xs[j]? with
  | none => rw [hx] at h2; cases h2
  | some x => exact ⟨j, x, rfl, h1, hx⟩
theorem worthT_hit (hx : xs[k]? = some x) (h : hitB re x = true) : worthT re xs (k + 1) = worthT re xs k + x.worth := by
  unfold worthT; rw [exposedT_hit hx h]; simp [worthAt, hx]
theorem worthT_no (hx : xs[k]? = some x) (h : hitB re x = false) : worthT re xs (k + 1) = worthT re xs k := by
  unfold worthT; rw [exposedT_no hx h]
theorem mapsum_step {f : Int → Int} {L : List Int} {i : Int} (h : L[k]? = some i) : ((L.take (k + 1)).map f).sum = ((L.take k).map f).sum + f i := by
  rw [List.take_succ_eq_append_getElem (List.getElem?_eq_some_iff.1 h).1, (List.getElem?_eq_some_iff.1 h).2]; simp
end
theorem exposeC_zero {g : Grid} {xs : List Asset} {re : List Int} (h : exposeC g xs re = 0) : assetsB g xs = true := by
  unfold exposeC at h
  cases hv : assetsB g xs
  · rw [if_pos hv] at h; cases h
  · rfl
theorem assetsB_worth {g : Grid} {xs : List Asset} (h : assetsB g xs = true) : ∀ x ∈ xs, 0 ≤ x.worth ∧ x.worth ≤ 1000000 := by
  intro x hx
  obtain ⟨k, hk⟩ := List.mem_iff_getElem?.1 hx
  exact (fitsB_parts (assetsB_fits h hk)).2.2.2

set_option maxHeartbeats 1000000 in
theorem l11Cells_any (g : GridR) (bg offg : Nat) (B : Option Addr) (m d : Nat) (re : List Int) (cells : Int) (w : World) (hr : SliceOf w 1 i64cells B m re) (hm : IntKind.i64.wrap (g.rows * g.columns) = g.rows * g.columns) (hgc : g.rows * g.columns = cells) (hc0 : 0 ≤ cells) (hc1 : cells ≤ 9223372036854775807) (hbg0 : bg < w.heap.size) (g0 : w.cell? ⟨bg, offg, none⟩ = some (.int .i64 g.rows)) (g1 : w.cell? ⟨bg, offg + 1, none⟩ = some (.int .i64 g.columns)) :
    Calls Try.prog 83 #[.pointer (some ⟨bg, offg, none⟩), .slice B m d] w (Ret (.bool (cellsB 0 (cells - 1) re)) w) := by
  rw [hgc] at hm
  have hsub := fun (g : Sub w) b o (h : b < w.heap.size) => g.cell b o h
  have HR := Lib.hid hr
  clear hr
  go_enter Try.func83, Try.ntmps83
  go_wp2_with fail
  refine wp_region_sub (by kernel_rfl) (by kernel_rfl) ?_
  repeat (go_big_quiet_step (exact Calls.sub_of (l00Rises_any 0 (cells - 1) _ _ _ re _ (HR.out.below (Sub.below _)))))
  refine wpQuiet_nil ?_
  intro wg hg
  go_wp2
  go_ret
  exact Ret.b rfl hg
set_option maxHeartbeats 1000000 in
theorem l15Ask_any (g : GridR) (bg offg : Nat) (A : Option Addr) (n c : Nat) (xs : List Asset) (B : Option Addr) (m d : Nat) (re : List Int) (w : World) (hgi : g.In w) (hx : Asset.Sl w A n xs) (hg : ∀ x ∈ xs, x.Good) (hr : SliceOf w 1 i64cells B m re) (hbg0 : bg < w.heap.size)
    (g0 : w.cell? ⟨bg, offg, none⟩ = some (.int .i64 g.rows)) (g1 : w.cell? ⟨bg, offg + 1, none⟩ = some (.int .i64 g.columns)) (g2 : w.cell? ⟨bg, offg + 2, none⟩ = some (.int .i64 g.size)) (g3 : w.cell? ⟨bg, offg + 3, none⟩ = some (.slice g.heightsA g.heightsN g.heightsC)) :
    Calls Try.prog 60 #[.pointer (some ⟨bg, offg, none⟩), .slice A n c, .slice B m d] w (Ret (.int .i64 (exposeC g.val xs re)) w) := by
  have HGl := Lib.hid hgi.1.len
  have hgn := hgi.1.le
  have HI := Lib.hid hgi
  have HX := Lib.hid hx
  have HR := Lib.hid hr
  have G0 := Lib.hid g0
  have G1 := Lib.hid g1
  have G2 := Lib.hid g2
  have G3 := Lib.hid g3
  clear hgi hx hr g0 g1 g2 g3
  go_enter Try.func60, Try.ntmps60
  go_wp2_with fail
  refine (l09Ok_any g _ _ _ HI.out hbg0 G0.out G1.out G2.out G3.out).mono ?_
  rintro e w1 ⟨rfl, hb1⟩
  cases hgb : gridB g.val
  · have HF : Hid (exposeC g.val xs re = 1) := by rw [Hid]; unfold exposeC; rw [if_pos (by unfold assetsB; rw [hgb, Bool.false_and])]
    go_wp2
    go_ret
    exact Ret.i HF.out.symm hb1
  have hp := (gridB_iff g.val).1 hgb
  have HM := Lib.hid (mul_i64 (inB_iff.1 hp.1) (inB_iff.1 hp.2.1))
  have HL : Hid (g.rows * g.columns = (g.heightsN : Int)) := by have h := of_decide_eq_true hp.2.2.2.1; exact h.symm.trans (congrArg (fun k : Nat => (k : Int)) HGl.out)
  have HV : Hid (assetsB g.val xs = Asset.validB (g.heightsN : Int) xs) := by rw [Hid]; unfold assetsB; rw [hgb, Bool.true_and, show g.val.heights.length = g.heightsN from HGl.out]
  clear hp
  go_wp2_with fail
  refine (l15List_any g _ _ _ _ _ xs (g.heightsN : Int) _ (HX.out.below hb1) hg HM.out.1 HL.out (by omega) (by omega) (Nat.lt_of_lt_of_le hbg0 hb1.size) ((hb1.cell hbg0).trans G0.out) ((hb1.cell hbg0).trans G1.out)).mono ?_
  rintro e w2 ⟨rfl, hb2⟩
  have hb12 := hb1.trans (hb2.mono hb1.size)
  cases hv : Asset.validB (g.heightsN : Int) xs
  · have HF : Hid (exposeC g.val xs re = 1) := by rw [Hid]; unfold exposeC; rw [if_pos (by rw [HV.out, hv])]
    go_wp2
    go_ret
    exact Ret.i HF.out.symm hb12
  go_wp2_with fail
  refine (l11Cells_any g _ _ _ _ _ re (g.heightsN : Int) _ (HR.out.below hb12) HM.out.1 HL.out (by omega) (by omega) (Nat.lt_of_lt_of_le hbg0 hb12.size) ((hb12.cell hbg0).trans G0.out) ((hb12.cell hbg0).trans G1.out)).mono ?_
  rintro e w3 ⟨rfl, hb3⟩
  have HE : Hid (cellsG g.val re = cellsB 0 ((g.heightsN : Int) - 1) re) := by rw [Hid]; unfold cellsG; rw [show g.val.heights.length = g.heightsN from HGl.out]
  cases hc : cellsB 0 ((g.heightsN : Int) - 1) re
  · have HF : Hid (exposeC g.val xs re = 7) := by rw [Hid]; unfold exposeC; rw [if_neg (by rw [HV.out, hv]; simp), if_pos (by rw [HE.out, hc])]
    go_wp2
    go_ret
    exact Ret.i HF.out.symm (hb12.trans (hb3.mono hb12.size))
  · have HF : Hid (exposeC g.val xs re = 0) := by rw [Hid]; unfold exposeC; rw [if_neg (by rw [HV.out, hv]; simp), if_neg (by rw [HE.out, hc]; simp)]
    go_wp2
    go_ret
    exact Ret.i HF.out.symm (hb12.trans (hb3.mono hb12.size))
set_option maxHeartbeats 1000000 in
theorem worthOf_any (A : Option Addr) (n c : Nat) (xs : List Asset) (B : Option Addr) (m d : Nat) (re : List Int) (w : World) (hx : Asset.Sl w A n xs) (hr : SliceOf w 1 i64cells B m re) (hw : ∀ x ∈ xs, 0 ≤ x.worth ∧ x.worth ≤ 1000000) (hn12 : n ≤ 12) :
    Calls Try.prog 55 #[.slice A n c, .slice B m d] w (Ret (.int .i64 (worthT re xs n)) w) := by
  have HR := Lib.hid hr
  clear hr
  go_enter Try.func55, Try.ntmps55
  go_wp2
  go_loopg [5, 10] n (fun gk s i wr => ∃ (k : Nat) (q : Int), k ≤ n ∧ gk = n - k ∧ i = .int .i64 k ∧ s = .int .i64 q ∧ q = worthT re xs k ∧ 0 ≤ q ∧ q ≤ 1000000 * k ∧ Below w.heap.size w wr)
  case atStart => exact ⟨0, 0, Nat.zero_le _, rfl, rfl, rfl, rfl, by omega, by omega, Below.refl _ _⟩
  case round =>
    obtain ⟨k, q, hk, hgk, rfl, rfl, hq, hq0, hq1, hb⟩ := hrel
    have Hq := Lib.hid hq
    have Hgk := Lib.hid hgk
    clear hq hgk
    by_cases hlt : k < n
    · obtain ⟨b1, o1, x, rfl, hb1, hxk, hix, x0, x1, x2⟩ := (hx.below hb).at_ hlt
      have hbnd := hw x.val (List.mem_of_getElem? hxk)
      have Hx := Lib.hid hxk
      obtain ⟨hbnd0, hbnd1⟩ : 0 ≤ x.worth ∧ x.worth ≤ 1000000 := hbnd
      have hB1 : Below wr.heap.size wr (wr.alloc (.cells #[.string x.id, .slice x.spotsA x.spotsN x.spotsC, .int .i64 x.worth] 82)) := (Below.refl _ _).alloc (Nat.le_refl _) _
      have HO := Lib.hid (Own.new wr 82 #[.string x.id, .slice x.spotsA x.spotsN x.spotsC, .int .i64 x.worth])
      have HB1 := Lib.hid hB1
      have HI := Lib.hid (hix.below hB1)
      clear hxk hB1 hix
      cases hh : hitB re x.val
      · have HH := Lib.hid hh
        go_wp2_with fail
        refine (exposed_any x _ _ _ re _ HI.out ((HR.out.below hb).below HB1.out)).mono ?_
        rintro e w2 ⟨rfl, hb2⟩
        rw [HH.out]
        have hbw := hb.trans ((HB1.out.trans (hb2.mono HB1.out.size)).mono hb.size)
        clear x0 x1 x2
        go_wp2
        go_roundg (n - (k + 1))
        case measure => have := Hgk.out; omega
        case rel => exact ⟨k + 1, q, by omega, rfl, by go_num, rfl, by rw [worthT_no Hx.out HH.out, Hq.out], by omega, by omega, hbw⟩
      · have HH := Lib.hid hh
        go_wp2_with fail
        refine (exposed_any x _ _ _ re _ HI.out ((HR.out.below hb).below HB1.out)).mono ?_
        rintro e w2 ⟨rfl, hb2⟩
        rw [HH.out]
        have hbw := hb.trans ((HB1.out.trans (hb2.mono HB1.out.size)).mono hb.size)
        have y2 : w2.cell? ⟨wr.heap.size, 2, none⟩ = some (.int .i64 x.worth) := (hb2.cell (p := ⟨wr.heap.size, 2, none⟩) (by simp)).trans (HO.out.cell 2)
        clear x0 x1 x2
        go_wp2
        go_roundg (n - (k + 1))
        case measure => have := Hgk.out; omega
        case rel => exact ⟨k + 1, q + x.worth, by omega, rfl, by go_num, by first | rfl | go_num, by rw [worthT_hit Hx.out HH.out, Hq.out]; rfl, by omega, by omega, hbw⟩
    · have hkn : k = n := by omega
      subst hkn
      go_wp2
      go_ret
      exact Ret.i Hq.out hb
set_option maxHeartbeats 1000000 in
theorem l15Exposed_any (A : Option Addr) (n c : Nat) (xs : List Asset) (B : Option Addr) (m d : Nat) (re : List Int) (w : World) (hx : Asset.Sl w A n xs) (hr : SliceOf w 1 i64cells B m re) (hn12 : n ≤ 12) :
    Calls Try.prog 74 #[.slice A n c, .slice B m d] w (RetL 2 1 i64cells (exposedT re xs n) w) := by
  have HR := Lib.hid hr
  clear hr
  go_enter Try.func74, Try.ntmps74
  go_wp2
  go_loopg [5, 6] n (fun gk s i wr => ∃ (k : Nat) (v : Value), k ≤ n ∧ gk = n - k ∧ i = .int .i64 k ∧ v = s ∧ Below w.heap.size w wr ∧ OwnsL wr w.heap.size 2 1 i64cells v (exposedT re xs k))
  case atStart => exact ⟨0, _, Nat.zero_le _, rfl, rfl, rfl, (Below.refl _ _).alloc (Nat.le_refl _) _, OwnsL.made _ _ _ _ _ (Nat.le_refl _)⟩
  case round =>
    obtain ⟨k, v, hk, hgk, rfl, rfl, hb, hown⟩ := hrel
    have Hgk := Lib.hid hgk
    have Hown := Lib.hid hown
    clear hgk hown
    by_cases hlt : k < n
    · obtain ⟨b1, o1, x, rfl, hb1, hxk, hix, x0, x1, x2⟩ := (hx.below hb).at_ hlt
      have Hx := Lib.hid hxk
      have HI := Lib.hid hix
      have X1 := Lib.hid x1
      clear hxk hix x0 x1 x2
      cases hh : hitB re x.val
      · have HH := Lib.hid hh
        go_wp2_with fail
        refine (l15Hit_any x _ _ _ _ _ re _ HI.out (HR.out.below hb) X1.out).mono ?_
        rintro e w' ⟨rfl, rfl⟩
        rw [HH.out]
        go_wp2
        go_roundg (n - (k + 1))
        case measure => have := Hgk.out; omega
        case rel => exact ⟨k + 1, v, by omega, rfl, by go_num, rfl, hb, by rw [exposedT_no Hx.out HH.out]; exact Hown.out⟩
      · have HH := Lib.hid hh
        go_wp2_with fail
        refine (l15Hit_any x _ _ _ _ _ re _ HI.out (HR.out.below hb) X1.out).mono ?_
        rintro e w' ⟨rfl, rfl⟩
        rw [HH.out]
        go_wp2_with (at_builtin; refine wpList_push (by rfl) (.tmp 19) (.tmp 21) 24 (by rfl) w.heap.size 2 1 Try.underlying24 infoI64 (by rfl) (by decide) i64cells i64cells_len i64cells_one _ v _ (k : Int) (by rfl) (by rfl) Hown.out (by rfl) (by have := exposedT_len re xs k; omega) (by decide) hb.size ?_)
        intro v' w' hown' hb' _
        have hbw := hb.trans hb'
        have HW : Hid (OwnsL w' w.heap.size 2 1 i64cells v' (exposedT re xs (k + 1))) := by rw [Hid, exposedT_hit Hx.out HH.out]; exact hown'
        clear hown'
        go_wp2
        go_roundg (n - (k + 1))
        case measure => have := Hgk.out; omega
        case rel => exact ⟨k + 1, v', by omega, rfl, by go_num, rfl, hbw, HW.out⟩
    · have hkn : k = n := by omega
      subst hkn
      go_wp2
      go_ret
      exact RetP.mk Hown.out hb
set_option maxHeartbeats 1000000 in
theorem l15Worth_any (A : Option Addr) (n c : Nat) (xs : List Asset) (B : Option Addr) (m d : Nat) (re : List Int) (w : World) (hx : Asset.Sl w A n xs) (hr : SliceOf w 1 i64cells B m re) (hw : ∀ x ∈ xs, 0 ≤ x.worth ∧ x.worth ≤ 1000000) (hn12 : n ≤ 12) :
    Calls Try.prog 51 #[.slice A n c, .slice B m d] w (Ret (.int .i64 (worthT re xs n)) w) := by
  have HW := Lib.hid hw
  clear hw
  go_enter Try.func51, Try.ntmps51
  go_wp2_with fail
  refine (l15Exposed_any _ _ _ xs _ _ _ re _ hx hr hn12).mono ?_
  rintro e w1 ⟨v, rfl, hown, hb1⟩
  obtain ⟨L, hL⟩ : ∃ L, exposedT re xs n = L := ⟨_, rfl⟩
  rw [hL] at hown
  have HL := Lib.hid hL
  have HLl : Hid (L.length ≤ 12) := by rw [Hid, ← hL]; exact Nat.le_trans (exposedT_len _ _ _) hn12
  obtain ⟨A', c', rfl, hc1, hc2, hs⟩ := hown.slice i64cells_len
  clear hL hown hr
  have hsl := hs.le
  have hll := HLl.out
  go_wp2
  go_loopg [6, 7] L.length (fun gk s i wr => ∃ (k : Nat) (q : Int), k ≤ L.length ∧ gk = L.length - k ∧ i = .int .i64 k ∧ s = .int .i64 q ∧ q = ((L.take k).map (worthAt xs)).sum ∧ 0 ≤ q ∧ q ≤ 1000000 * k ∧ w1 = wr)
  case atStart => exact ⟨0, 0, Nat.zero_le _, rfl, rfl, rfl, rfl, by omega, by omega, rfl⟩
  case round =>
    obtain ⟨k, q, hk, hgk, rfl, rfl, hq, hq0, hq1, rfl⟩ := hrel
    have Hq := Lib.hid hq
    have Hgk := Lib.hid hgk
    clear hq hgk
    by_cases hlt : k < L.length
    · obtain ⟨b1, o1, i, rfl, hb1', hik, i0⟩ := ints_at hs hlt
      have hmem : i ∈ exposedT re xs n := by rw [HL.out]; exact List.mem_of_getElem? hik
      obtain ⟨j, y, rfl, hj, hyj⟩ := exposedT_mem hmem
      obtain ⟨b2, o2, x, rfl, hb2, hxk, hix, x0, x1, x2⟩ := (hx.below hb1).at_ hj
      have hbnd := HW.out x.val (List.mem_of_getElem? hxk)
      obtain ⟨hbnd0, hbnd1⟩ : 0 ≤ x.worth ∧ x.worth ≤ 1000000 := hbnd
      have Hs : Hid (((L.take (k + 1)).map (worthAt xs)).sum = ((L.take k).map (worthAt xs)).sum + x.worth) := by
        rw [Hid, mapsum_step hik]; simp [worthAt, hxk, AssetR.val]
      clear hmem hyj hix hik hxk x0 x1
      go_wp2
      go_roundg (L.length - (k + 1))
      case measure => have := Hgk.out; omega
      case rel => exact ⟨k + 1, q + x.worth, by omega, rfl, by go_num, by first | rfl | go_num, by rw [Hs.out, Hq.out], by omega, by omega, rfl⟩
    · have HE : Hid (q = worthT re xs n) := by
        rw [Hid, Hq.out, List.take_of_length_le (by omega)]; unfold worthT; rw [HL.out]
      go_wp2
      go_ret
      exact Ret.i HE.out hb1

end Go.Proofs.Ythlgfmdlecdchaa
