/- ExposedWorth and ExposedAssets themselves. -/
import Derived.Test.YtphapakhoibamaaGreatDoorBase
import Derived.Test.YtphapakhoibamaaGreatDoorMem
import Derived.Test.YtphapakhoibamaaGreatDoorTInt64
import Derived.Test.YtphapakhoibamaaGreatDoorWithin
import Derived.Test.YtphapakhoibamaaGreatDoorTGrid
import Derived.Test.YtphapakhoibamaaGreatDoorTAsset
import Derived.Test.YtphapakhoibamaaGreatDoorGrids
import Derived.Test.YtphapakhoibamaaGreatDoorAssets
import Derived.Test.YtphapakhoibamaaGreatDoorHits
import Derived.Test.YtphapakhoibamaaGreatDoorExposed
namespace Go.Proofs.YtphapakhoibamaaGreatDoor
open Go.RowKit

def worthA (g : Grid) (xs : List Asset) (re : List Int) : Int := if exposeC g xs re = 0 then worthT re xs xs.length else 0
def exposedA (g : Grid) (xs : List Asset) (re : List Int) : List Int := if exposeC g xs re = 0 then exposedT re xs xs.length else []
theorem exposedA_len (g : Grid) (xs : List Asset) (re : List Int) : (exposedA g xs re).length ≤ 1048576 := by
  unfold exposedA
  split
  · rename_i h
    have h1 := assetsB_len (exposeC_zero h)
    have h2 := exposedT_len re xs xs.length
    omega
  · simp
theorem RetLTe.no {T : TypeId} {L : List Int} {C c : Int} {w w' : World} (h : c = C) (hL : L = []) (hb : Below w.heap.size w w') : RetLT T 1 i64cells L [.int .i64 C] w (.returned (.tuple #[.slice none 0 0, .int .i64 c])) w' :=
  ⟨_, by rw [h], by rw [hL]; exact OwnsL.nil_ _ _ _ _ _, hb⟩
theorem RetLTe.yes {T : TypeId} {L : List Int} {C c : Int} {w w' : World} {v : Value} {base : Nat} (h : c = C) (ho : OwnsL w' base T 1 i64cells v L) (hbase : w.heap.size ≤ base) (hb : Below w.heap.size w w') : RetLT T 1 i64cells L [.int .i64 C] w (.returned (.tuple #[v, .int .i64 c])) w' :=
  ⟨_, by rw [h], ho.rebase hbase, hb⟩

set_option maxHeartbeats 1000000 in
theorem implExposedWorth_any (g : GridR) (A : Option Addr) (n c : Nat) (xs : List Asset) (B : Option Addr) (m d : Nat) (re : List Int) (w : World) (hgi : g.In w) (hx : Asset.Sl w A n xs) (hg : ∀ x ∈ xs, x.Good) (hr : SliceOf w 1 i64cells B m re) :
    Calls Tryz.prog 12 #[.agg #[.int .i64 g.rows, .int .i64 g.columns, .int .i64 g.size, .slice g.heightsA g.heightsN g.heightsC], .slice A n c, .slice B m d] w (Ret (.tuple #[.int .i64 (worthA g.val xs re), .int .i64 (exposeC g.val xs re)]) w) := by
  have hB : Below w.heap.size w (w.alloc (.cells #[.int .i64 g.rows, .int .i64 g.columns, .int .i64 g.size, .slice g.heightsA g.heightsN g.heightsC] 26)) := (Below.refl _ _).alloc (Nat.le_refl _) _
  have HB := Lib.hid hB
  have HI := Lib.hid (hgi.below hB)
  have HX := Lib.hid (hx.below hB)
  have HR := Lib.hid (hr.below hB)
  have Hl := Lib.hid hx.len
  clear hgi hx hr hB
  go_enter Tryz.func12, Tryz.ntmps12
  go_wp2_with fail
  refine (assetsCode_any g _ _ _ xs _ _ _ re _ HI.out HX.out hg HR.out).mono ?_
  rintro e w1 ⟨rfl, hb1⟩
  by_cases h0 : exposeC g.val xs re = 0
  · have H0 := Lib.hid h0
    have hne : (exposeC g.val xs re != 0) = false := by simp [h0]
    have HW := Lib.hid (assetsB_worth (exposeC_zero h0))
    have HN : Hid (n ≤ 12) := by rw [Hid, ← Hl.out]; exact assetsB_len (exposeC_zero h0)
    have HE : Hid (worthA g.val xs re = worthT re xs n) := by rw [Hid]; unfold worthA; rw [if_pos h0, Hl.out]
    clear h0
    go_wp2_with fail
    refine (worthOf_any _ _ _ xs _ _ _ re _ (HX.out.below hb1) (HR.out.below hb1) HW.out HN.out).mono ?_
    rintro e w2 ⟨rfl, hb2⟩
    go_wp2
    go_ret2
    exact Ret.ii HE.out.symm H0.out.symm (HB.out.trans ((hb1.trans (hb2.mono hb1.size)).mono HB.out.size))
  · have hne : (exposeC g.val xs re != 0) = true := by simp [h0]
    have HE : Hid (worthA g.val xs re = 0) := by rw [Hid]; unfold worthA; rw [if_neg h0]
    clear h0
    go_wp2
    go_ret2
    exact Ret.ii HE.out.symm rfl (HB.out.trans (hb1.mono HB.out.size))
set_option maxHeartbeats 1000000 in
theorem implExposedAssets_any (g : GridR) (A : Option Addr) (n c : Nat) (xs : List Asset) (B : Option Addr) (m d : Nat) (re : List Int) (w : World) (hgi : g.In w) (hx : Asset.Sl w A n xs) (hg : ∀ x ∈ xs, x.Good) (hr : SliceOf w 1 i64cells B m re) :
    Calls Tryz.prog 11 #[.agg #[.int .i64 g.rows, .int .i64 g.columns, .int .i64 g.size, .slice g.heightsA g.heightsN g.heightsC], .slice A n c, .slice B m d] w (RetLT 2 1 i64cells (exposedA g.val xs re) [.int .i64 (exposeC g.val xs re)] w) := by
  have hB : Below w.heap.size w (w.alloc (.cells #[.int .i64 g.rows, .int .i64 g.columns, .int .i64 g.size, .slice g.heightsA g.heightsN g.heightsC] 26)) := (Below.refl _ _).alloc (Nat.le_refl _) _
  have HB := Lib.hid hB
  have HI := Lib.hid (hgi.below hB)
  have HX := Lib.hid (hx.below hB)
  have HR := Lib.hid (hr.below hB)
  have Hl := Lib.hid hx.len
  have hn := hx.le
  clear hgi hx hr hB
  go_enter Tryz.func11, Tryz.ntmps11
  go_wp2_with fail
  refine (assetsCode_any g _ _ _ xs _ _ _ re _ HI.out HX.out hg HR.out).mono ?_
  rintro e w1 ⟨rfl, hb1⟩
  have hbz := HB.out.trans (hb1.mono HB.out.size)
  have HBz := Lib.hid hbz
  by_cases h0 : exposeC g.val xs re = 0
  · have H0 := Lib.hid h0
    have hne : (exposeC g.val xs re != 0) = false := by simp [h0]
    have HN : Hid (n ≤ 12) := by rw [Hid, ← Hl.out]; exact assetsB_len (exposeC_zero h0)
    have HE : Hid (exposedA g.val xs re = exposedT re xs n) := by rw [Hid]; unfold exposedA; rw [if_pos h0, Hl.out]
    have HX1 := Lib.hid (HX.out.below hb1)
    have HR1 := Lib.hid (HR.out.below hb1)
    have hn12 := HN.out
    clear h0 hb1 hbz
    go_wp2
    clear hne
    go_loopg [9, 21] n (fun gk s i wr => ∃ (k : Nat) (v : Value), k ≤ n ∧ gk = n - k ∧ i = .int .i64 k ∧ v = s ∧ Below w1.heap.size w1 wr ∧ OwnsL wr w1.heap.size 2 1 i64cells v (exposedT re xs k))
    case atStart => exact ⟨0, _, Nat.zero_le _, rfl, rfl, rfl, Below.refl _ _, OwnsL.nil_ _ _ _ _ _⟩
    case round =>
      obtain ⟨k, v, hk, hgk, rfl, rfl, hb, hown⟩ := hrel
      have Hgk := Lib.hid hgk
      have Hown := Lib.hid hown
      clear hgk hown
      by_cases hlt : k < n
      · obtain ⟨b1, o1, x, rfl, hb1, hxk, hix, x0, x1, x2⟩ := (HX1.out.below hb).at_ hlt
        have Hx := Lib.hid hxk
        have hB1 : Below wr.heap.size wr (wr.alloc (.cells #[.string x.id, .slice x.spotsA x.spotsN x.spotsC, .int .i64 x.worth] 45)) := (Below.refl _ _).alloc (Nat.le_refl _) _
        have HB1 := Lib.hid hB1
        have HI1 := Lib.hid (hix.below hB1)
        clear hxk hB1 hix
        cases hh : hitB re x.val
        · have HH := Lib.hid hh
          go_wp2_with fail
          refine (exposed_any x _ _ _ re _ HI1.out ((HR1.out.below hb).below HB1.out)).mono ?_
          rintro e w2 ⟨rfl, hb2⟩
          rw [HH.out]
          have hb12 := HB1.out.trans (hb2.mono HB1.out.size)
          have hbw := hb.trans (hb12.mono hb.size)
          have HW : Hid (OwnsL w2 w1.heap.size 2 1 i64cells v (exposedT re xs (k + 1))) := by rw [Hid, exposedT_no Hx.out HH.out]; exact Hown.out.below' hb12
          clear x0 x1 x2 hb2 hb12
          go_wp2
          go_roundg (n - (k + 1))
          case measure => have := Hgk.out; omega
          case rel => exact ⟨k + 1, v, by omega, rfl, by go_num, rfl, hbw, HW.out⟩
        · have HH := Lib.hid hh
          go_wp2_with fail
          refine (exposed_any x _ _ _ re _ HI1.out ((HR1.out.below hb).below HB1.out)).mono ?_
          rintro e w2 ⟨rfl, hb2⟩
          rw [HH.out]
          have hb12 := HB1.out.trans (hb2.mono HB1.out.size)
          have hbw := hb.trans (hb12.mono hb.size)
          have Hown2 := Lib.hid (Hown.out.below' hb12)
          clear x0 x1 x2 hb2 hb12
          go_wp2_with (at_builtin; refine wpList_push (by rfl) (.tmp 29) (.tmp 31) 24 (by rfl) w1.heap.size 2 1 Tryz.underlying24 infoI64 (by rfl) (by decide) i64cells i64cells_len i64cells_one _ v _ (k : Int) (by rfl) (by rfl) Hown2.out (by rfl) (by have := exposedT_len re xs k; omega) (by decide) hbw.size ?_)
          intro v' w' hown' hb' _
          have hbw' := hbw.trans hb'
          have HW : Hid (OwnsL w' w1.heap.size 2 1 i64cells v' (exposedT re xs (k + 1))) := by rw [Hid, exposedT_hit Hx.out HH.out]; exact hown'
          clear hown'
          go_wp2
          go_roundg (n - (k + 1))
          case measure => have := Hgk.out; omega
          case rel => exact ⟨k + 1, v', by omega, rfl, by go_num, rfl, hbw', HW.out⟩
      · have hkn : k = n := by omega
        subst hkn
        go_wp2
        go_ret2
        exact RetLTe.yes H0.out.symm (by rw [HE.out]; exact Hown.out) HBz.out.size (HBz.out.trans (hb.mono HBz.out.size))
  · have hne : (exposeC g.val xs re != 0) = true := by simp [h0]
    have HE : Hid (exposedA g.val xs re = []) := by rw [Hid]; unfold exposedA; rw [if_neg h0]
    clear h0
    go_wp2
    go_ret2
    exact RetLTe.no rfl HE.out hbz

end Go.Proofs.YtphapakhoibamaaGreatDoor
