/- The assets that the laws draw from bytes. -/
import Derived.Test.YthlgfmdlecdchaaDraw
namespace Go.Proofs.Ythlgfmdlecdchaa
open Go.RowKit

set_option maxHeartbeats 1000000 in
theorem r8Assets_any (A : Option Addr) (n c : Nat) (ds : List Int) (g : GridR) (w : World) (hs : SliceOf w 1 u8cells A n ds) (hb : ∀ x ∈ ds, 0 ≤ x ∧ x ≤ 255) (hgi : g.In w) (h1N : 1 ≤ g.heightsN) (h64 : g.heightsN ≤ 64) :
    Calls Try.prog 27 #[.slice A n c, .agg #[.int .i64 g.rows, .int .i64 g.columns, .int .i64 g.size, .slice g.heightsA g.heightsN g.heightsC]] w (fun e w' => ∃ (v : Value) (xs : List Asset), e = .returned v ∧ Asset.validB (g.heightsN : Int) xs = true ∧ (∀ x ∈ xs, x.Good) ∧ (∃ (B : Option Addr) (cc : Nat), v = .slice B xs.length cc ∧ Asset.Sl w' B xs.length xs) ∧ Below w.heap.size w w') := by
  have HY := Lib.hid hb
  have hB : Below w.heap.size w (w.alloc (.cells #[.int .i64 g.rows, .int .i64 g.columns, .int .i64 g.size, .slice g.heightsA g.heightsN g.heightsC] 26)) := (Below.refl _ _).alloc (Nat.le_refl _) _
  have HB := Lib.hid hB
  have HS0 := Lib.hid (hs.below hB)
  have HG0 : Hid (BoxD w.heap.size g (w.alloc (.cells #[.int .i64 g.rows, .int .i64 g.columns, .int .i64 g.size, .slice g.heightsA g.heightsN g.heightsC] 26))) := ⟨Own.new _ _ _, hgi.below hB⟩
  clear hs hb hB hgi
  go_enter Try.func27, Try.ntmps27
  go_wp2_with fail
  refine (srcFrom_any A n c ds _ HS0.out HY.out).mono ?_
  rintro e w2 ⟨bs, rfl, hsrc, hb2⟩
  have HG2 := Lib.hid (HG0.out.grow hb2)
  have HSRC := Lib.hid hsrc
  clear hb2 hsrc
  go_wp2_with fail
  refine (l15Draw_any A n c ds bs w.heap.size g _ w2 HSRC.out HG2.out h1N h64).mono ?_
  rintro e w3 ⟨v, xs, rfl, hv, hgd, ⟨B, cc, rfl, hsl⟩, hb3⟩
  have HV := Lib.hid hv
  have HGD := Lib.hid hgd
  have HSL := Lib.hid hsl
  have HB3 := Lib.hid (HB.out.trans (hb3.mono HB.out.size))
  clear hv hgd hsl hb3
  go_wp2
  go_ret
  exact ⟨_, xs, rfl, HV.out, HGD.out, ⟨B, cc, rfl, HSL.out⟩, HB3.out⟩

end Go.Proofs.Ythlgfmdlecdchaa
