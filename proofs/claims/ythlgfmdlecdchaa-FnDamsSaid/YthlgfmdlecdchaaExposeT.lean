/- ExposedWorth and ExposedAssets themselves. -/
import Derived.Test.YthlgfmdlecdchaaBase
import Derived.Test.YthlgfmdlecdchaaMem
import Derived.Test.YthlgfmdlecdchaaTInt64
import Derived.Test.YthlgfmdlecdchaaWithin
import Derived.Test.YthlgfmdlecdchaaTGrid
import Derived.Test.YthlgfmdlecdchaaTAsset
import Derived.Test.YthlgfmdlecdchaaGrids
import Derived.Test.YthlgfmdlecdchaaAssets
import Derived.Test.YthlgfmdlecdchaaHits
import Derived.Test.YthlgfmdlecdchaaExposed
namespace Go.Proofs.Ythlgfmdlecdchaa
open Go.RowKit

def worthA (g : Grid) (xs : List Asset) (re : List Int) : Int := if exposeC g xs re = 0 then worthT re xs xs.length else 0
def exposedA (g : Grid) (xs : List Asset) (re : List Int) : List Int := if exposeC g xs re = 0 then exposedT re xs xs.length else []
theorem exposedA_len (g : Grid) (xs : List Asset) (re : List Int) : (exposedA g xs re).length ≤ 1048576 := by
  unfold exposedA
  split
  · rename_i h
    have h1 := assetsB_len (exposeC_zero h)
    have h2 := exposedT_len re xs xs.length
    omega
  · simp
theorem RetLTe.no {T : TypeId} {L : List Int} {C c : Int} {w w' : World} (h : c = C) (hL : L = []) (hb : Below w.heap.size w w') : RetLT T 1 i64cells L [.int .i64 C] w (.returned (.tuple #[.slice none 0 0, .int .i64 c])) w' :=
  ⟨_, by rw [h], by rw [hL]; exact OwnsL.nil_ _ _ _ _ _, hb⟩
theorem RetLTe.yes {T : TypeId} {L : List Int} {C c : Int} {w w' : World} {v : Value} {base : Nat} (h : c = C) (ho : OwnsL w' base T 1 i64cells v L) (hbase : w.heap.size ≤ base) (hb : Below w.heap.size w w') : RetLT T 1 i64cells L [.int .i64 C] w (.returned (.tuple #[v, .int .i64 c])) w' :=
  ⟨_, by rw [h], ho.rebase hbase, hb⟩

set_option maxHeartbeats 1000000 in
theorem specExposedWorth_any (g : GridR) (A : Option Addr) (n c : Nat) (xs : List Asset) (B : Option Addr) (m d : Nat) (re : List Int) (w : World) (hgi : g.In w) (hx : Asset.Sl w A n xs) (hg : ∀ x ∈ xs, x.Good) (hr : SliceOf w 1 i64cells B m re) :
    Calls Try.prog 30 #[.agg #[.int .i64 g.rows, .int .i64 g.columns, .int .i64 g.size, .slice g.heightsA g.heightsN g.heightsC], .slice A n c, .slice B m d] w (Ret (.tuple #[.int .i64 (worthA g.val xs re), .int .i64 (exposeC g.val xs re)]) w) := by
  have hB : Below w.heap.size w (w.alloc (.cells #[.int .i64 g.rows, .int .i64 g.columns, .int .i64 g.size, .slice g.heightsA g.heightsN g.heightsC] 26)) := (Below.refl _ _).alloc (Nat.le_refl _) _
  have HO := Lib.hid (Own.new w 26 #[.int .i64 g.rows, .int .i64 g.columns, .int .i64 g.size, .slice g.heightsA g.heightsN g.heightsC])
  have HB := Lib.hid hB
  have HI := Lib.hid (hgi.below hB)
  have HX := Lib.hid (hx.below hB)
  have HR := Lib.hid (hr.below hB)
  have Hl := Lib.hid hx.len
  clear hgi hx hr hB
  go_enter Try.func30, Try.ntmps30
  go_wp2_with fail
  refine (l15Ask_any g _ _ _ _ _ xs _ _ _ re _ HI.out HX.out hg HR.out (by simp) (HO.out.cell 0) (HO.out.cell 1) (HO.out.cell 2) (HO.out.cell 3)).mono ?_
  rintro e w1 ⟨rfl, hb1⟩
  by_cases h0 : exposeC g.val xs re = 0
  · have H0 := Lib.hid h0
    have hne : (exposeC g.val xs re != 0) = false := by simp [h0]
    have HW := Lib.hid (assetsB_worth (exposeC_zero h0))
    have HN : Hid (n ≤ 12) := by rw [Hid, ← Hl.out]; exact assetsB_len (exposeC_zero h0)
    have HE : Hid (worthA g.val xs re = worthT re xs n) := by rw [Hid]; unfold worthA; rw [if_pos h0, Hl.out]
    clear h0
    go_wp2_with fail
    refine (l15Worth_any _ _ _ xs _ _ _ re _ (HX.out.below hb1) (HR.out.below hb1) HW.out HN.out).mono ?_
    rintro e w2 ⟨rfl, hb2⟩
    go_wp2
    go_ret2
    exact Ret.ii HE.out.symm H0.out.symm (HB.out.trans ((hb1.trans (hb2.mono hb1.size)).mono HB.out.size))
  · have hne : (exposeC g.val xs re != 0) = true := by simp [h0]
    have HE : Hid (worthA g.val xs re = 0) := by rw [Hid]; unfold worthA; rw [if_neg h0]
    clear h0
    go_wp2
    go_ret2
    exact Ret.ii HE.out.symm rfl (HB.out.trans (hb1.mono HB.out.size))

end Go.Proofs.Ythlgfmdlecdchaa
