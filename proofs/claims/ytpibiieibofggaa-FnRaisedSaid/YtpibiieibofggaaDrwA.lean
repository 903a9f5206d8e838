/- One of some texts, and a yes or no, that the source draws. -/
import Derived.Test.YtpibiieibofggaaBase
import Derived.Test.YtpibiieibofggaaMem
import Derived.Test.YtpibiieibofggaaTStr
import Derived.Test.YtpibiieibofggaaSrc
import Derived.Test.YtpibiieibofggaaSrcK
namespace Go.Proofs.Ytpibiieibofggaa
open Go.RowKit

set_option maxHeartbeats 1000000 in
theorem srcText_any (A : Option Addr) (n c : Nat) (ds : List Int) (bs k m d b o : Nat) (xs : List ByteArray) (w0 w : World) (h : SrcAt A n c ds bs k w0 w) (hk : k ≤ 1048570000) (hm : 1 ≤ m) (hm2 : m ≤ 1048576) (hx : SliceOf w 1 strcells (some ⟨b, o, none⟩) m xs) (hb : b ≠ bs) :
    Calls Try.prog 49 #[.pointer (some ⟨bs, 0, none⟩), .slice (some ⟨b, o, none⟩) m d] w (fun e w' => ∃ (y : ByteArray) (k' : Nat), e = .returned (.string y) ∧ y ∈ xs ∧ k' ≤ k + 2 ∧ SrcAt A n c ds bs k' w0 w' ∧ Span bs (bs + 1) w w') := by
  have H := Lib.hid h
  have HX := Lib.hid hx
  clear h hx
  go_enter Try.func49, Try.ntmps49
  go_wp2_with fail
  refine (srcPick_any A n c ds bs k m w0 w H.out hk hm hm2).mono ?_
  rintro e w1 ⟨r, k', rfl, hr, hk', hs, ha⟩
  have HS := Lib.hid hs
  have HA := Lib.hid ha
  obtain ⟨b1, o1, y, hA, hb1, hy, y0⟩ := strs_at (HX.out.span ha (by omega)) hr
  injection hA with hA
  injection hA with e1 e2 _
  subst e1 e2
  have HY := Lib.hid (List.mem_of_getElem? hy)
  clear hs ha hy
  go_wp2
  go_ret
  exact ⟨y, k', rfl, HY.out, hk', HS.out, HA.out⟩
set_option maxHeartbeats 1000000 in
theorem srcOneR_any (A : Option Addr) (n c : Nat) (ds : List Int) (bs k m : Nat) (w0 w : World) (h : SrcAt A n c ds bs k w0 w) (hk : k ≤ 1048570000) (hm : 1 ≤ m) (hm2 : m ≤ 1048576) :
    Calls Try.prog 67 #[.pointer (some ⟨bs, 0, none⟩), .int .i64 m] w (fun e w' => ∃ (b : Bool) (k' : Nat), e = .returned (.bool b) ∧ k' ≤ k + 2 ∧ SrcAt A n c ds bs k' w0 w' ∧ Span bs (bs + 1) w w') := by
  have H := Lib.hid h
  clear h
  go_enter Try.func67, Try.ntmps67
  go_wp2_with fail
  refine (srcPick_any A n c ds bs k m w0 w H.out hk hm hm2).mono ?_
  rintro e w1 ⟨r, k', rfl, hr, hk', hs, ha⟩
  have HS := Lib.hid hs
  have HA := Lib.hid ha
  clear hs ha
  go_wp2
  go_ret
  exact ⟨_, k', rfl, hk', HS.out, HA.out⟩

end Go.Proofs.Ytpibiieibofggaa
