/- The reference's splitting of a text. -/
import Derived.Test.YtllchmacipacnaaGreatDoorSplitP
import Derived.Test.YtllchmacipacnaaGreatDoorNumber
import Derived.Test.YtllchmacipacnaaGreatDoorBase
import Derived.Test.YtllchmacipacnaaGreatDoorMem
namespace Go.Proofs.YtllchmacipacnaaGreatDoor
open Go.RowKit

theorem strcells_len (p : ByteArray) : (strcells p).length = 1 := rfl
theorem strcells_one (p : ByteArray) : ∀ u ∈ strcells p, u.oneCell' = true := by intro u hu; simp [strcells] at hu; subst hu; rfl
theorem infoStr : (Tryz.prog.info? 9).map (fun i => (i.zero, i.size, i.bytes)) = some (some (.string ⟨#[]⟩), 1, 16) := by kernel_rfl

end Go.Proofs.YtllchmacipacnaaGreatDoor
