/- Copies of an owned slice of int64, nil among them, on both sides. -/
import Derived.Test.YtpibiieibofggaaOwn2
import Derived.Test.YtpibiieibofggaaHas
import Derived.Test.YtpibiieibofggaaSeek
import Derived.Laws.AppendOwnNone
namespace Go.Proofs.Ytpibiieibofggaa
open Go.RowKit

set_option maxHeartbeats 1000000 in
theorem l00Own_nil (w : World) : Calls Try.prog 64 #[.slice none 0 0] w (RetL 2 1 i64cells [] w) := by
  have hB : Below w.heap.size w (w.alloc (.cells #[] 2)) := (Below.refl _ _).alloc (Nat.le_refl _) _
  have hO := OwnsL.made w w.heap.size 2 1 i64cells (Nat.le_refl _)
  obtain ⟨i, hi, hz, hsize, hbytes⟩ := info_parts infoI64
  have HI := Lib.hid hi
  have HO := Lib.hid hO
  have HB := Lib.hid hB
  clear hB hO hi hz hsize hbytes
  go_enter Try.func64, Try.ntmps64
  go_wp2_with (at_builtin; refine wpList_append_own_none (by rfl) _ _ 27 (by rfl) w.heap.size 2 i 1 Try.underlying27 HI.out _ 0 [] (by rfl) HO.out (by rfl) ?_)
  go_ret
  exact RetP.mk HO.out HB.out
theorem l00Own_look {base : Nat} {T : TypeId} {v : Value} {xs : List Int} {w : World} (h : OwnsL w base T 1 i64cells v xs) (hn : xs.length ≤ 1048576) : Calls Try.prog 64 #[v] w (RetL 2 1 i64cells xs w) := by
  rcases h.form with ⟨rfl, rfl⟩ | ⟨g, cap, cur, rfl, _, _, _, _, _⟩
  · exact l00Own_nil w
  · exact l00Own_any g 0 xs.length cap xs w (h.sl i64cells_len) hn

end Go.Proofs.Ytpibiieibofggaa
