/- The laws' own helper markGrid: it writes over the heights' own block alone. -/
import Derived.Test.YtdpepdcbgocbcaaBase
import Derived.Test.YtdpepdcbgocbcaaMem
import Derived.Test.YtdpepdcbgocbcaaTInt64
import Derived.Test.YtdpepdcbgocbcaaTGrid
namespace Go.Proofs.Ytdpepdcbgocbcaa
open Go.RowKit

/-- Only the slice's own block is written; new blocks may be made. -/
def MarkedN (v : Value) (w w' : World) : Prop := ∀ lo hi, (∀ k, v.ownBlock = some k → lo ≤ k ∧ k < hi) → Span lo hi w w'
set_option maxHeartbeats 1000000 in
theorem markGrid_any (base : Nat) (p : GridR) (k : Int) (w : World) (h : OwnsL w base 2 1 i64cells (.slice p.heightsA p.heightsN p.heightsC) p.heights) (h0 : 0 ≤ k) (h1 : k ≤ 10000000000000) (hle : p.heights.length ≤ 1048576) :
    Calls Try.prog 31 #[.agg #[.int .i64 p.rows, .int .i64 p.columns, .int .i64 p.size, .slice p.heightsA p.heightsN p.heightsC], .int .i64 k] w (fun e w' => e = .returned (.int .i64 (k + p.heights.length)) ∧ MarkedN (.slice p.heightsA p.heightsN p.heightsC) w w') := by
  have hB : Below w.heap.size w (w.alloc (.cells #[.int .i64 p.rows, .int .i64 p.columns, .int .i64 p.size, .slice p.heightsA p.heightsN p.heightsC] 57)) := (Below.refl _ _).alloc (Nat.le_refl _) _
  have HB := Lib.hid hB
  have h' := h.below' hB
  clear h hB
  go_enter Try.func31, Try.ntmps31
  go_wp2_with fail
  refine (markInt64S_any base _ p.heights k _ h' h0 h1 hle).mono ?_
  rintro e w1 ⟨rfl, om, mk⟩
  have HM : Hid (MarkedN (.slice p.heightsA p.heightsN p.heightsC) w w1) := fun lo hi hk => Span.trans ⟨HB.out.os, HB.out.tape, HB.out.output, HB.out.size, fun k hk _ => HB.out.block k hk⟩ (mk.span hk)
  clear om mk
  go_wp2
  go_ret
  exact ⟨rfl, HM.out⟩

end Go.Proofs.Ytdpepdcbgocbcaa
