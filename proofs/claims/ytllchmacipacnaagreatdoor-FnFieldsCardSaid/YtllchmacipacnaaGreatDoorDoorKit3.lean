/- What the seven listed variables give the walks. -/
import Derived.Test.YtllchmacipacnaaGreatDoorDoorKit2
namespace Go.Proofs.YtllchmacipacnaaGreatDoor
open Go.RowKit

/-- The library's variables of FnExactReadAsset's list. -/
theorem lib_of_laid2 {W : World} {a b c : String × DataW Unit} {rest : List (String × DataW Unit)} (hp : ((a :: b :: ("internal/strconv.uint64pow10", Rows.laid_internal_strconv_uint64pow10) :: c :: ("strconv.ErrRange", Rows.laid_strconv_ErrRange) :: ("strconv.ErrSyntax", Rows.laid_strconv_ErrSyntax) :: rest).all fun x => x.2.handleName?.isNone) = true)
    (h : laidMetH Tryz.prog (a :: b :: ("internal/strconv.uint64pow10", Rows.laid_internal_strconv_uint64pow10) :: c :: ("strconv.ErrRange", Rows.laid_strconv_ErrRange) :: ("strconv.ErrSyntax", Rows.laid_strconv_ErrSyntax) :: rest) W) (hs : W.ShapedOpen Tryz.prog) : LibAt W.heap.size W := by
  rw [MakeChecks.laidMetH_plain _ _ _ hp] at h
  have h3 := laidMet.tail (laidMet.tail h)
  have h4 := laidMet.tail (laidMet.tail h3)
  have h5 := laidMet.tail h4
  obtain ⟨a0, s0, hv0, _⟩ := laid_sentinel h4 (g := 2) (ti := 81) (tp := 141) (te := 143) (ts := 9) (by kernel_rfl) (by kernel_rfl) Tryz.underlying81 row_err Tryz.underlying141 Tryz.underlying143 rfl rfl Tryz.underlying9 (by kernel_rfl) (by kernel_rfl)
  obtain ⟨a1, s1, hv1, _⟩ := laid_sentinel h5 (g := 1) (ti := 81) (tp := 141) (te := 143) (ts := 9) (by kernel_rfl) (by kernel_rfl) Tryz.underlying81 row_err Tryz.underlying141 Tryz.underlying143 rfl rfl Tryz.underlying9 (by kernel_rfl) (by kernel_rfl)
  obtain ⟨m, hm⟩ := cell_of_shapedOpen_int (g := 0) (k := .i64) (zero := #[.int .i64 0]) hs (of_decide_eq_true (by kernel_rfl)) (by kernel_rfl) rfl (by kernel_rfl) (by kernel_rfl) Tryz.underlying3
  have hlt : 0 < W.heap.size := by
    rcases Nat.lt_or_ge 0 W.heap.size with h' | h'
    · exact h'
    · unfold World.cell? at hm
      rw [Array.getElem?_eq_none h'] at hm
      cases hm
  exact ⟨tab_of_head h3, fun w' hb => ⟨_, _, var_below hv1 hb⟩, fun w' hb => ⟨_, _, var_below hv0 hb⟩, fun w' hb => ⟨m, (hb.cell (p := ⟨0, 0, none⟩) hlt).trans hm⟩⟩

end Go.Proofs.YtllchmacipacnaaGreatDoor
