/- The laws' own helper markText: it hands back some string. -/
import Derived.Test.YtpibiieibofggaaBase
import Derived.Test.YtpibiieibofggaaMem
import Derived.Laws.IdiomStrings
namespace Go.Proofs.Ytpibiieibofggaa
open Go.RowKit

set_option maxRecDepth 100000 in
set_option maxHeartbeats 1000000 in
theorem markText_any (k : Int) (w : World) (h0 : 0 ≤ k) (h1 : k ≤ 10000000000000) :
    Calls Try.prog 46 #[.int .i64 k] w (RetP (fun v _ => ∃ s : ByteArray, v = .string s) w) := by
  by_cases hk : k ≤ 0
  · go_enter Try.func46, Try.ntmps46
    go_wp2
    go_ret
    exact RetP.mk ⟨_, rfl⟩ (Below.refl _ _)
  · go_enter Try.func46, Try.ntmps46
    go_wp2
    go_loopg [0, 3] k.toNat (fun gk a b wr => ∃ (q : Int) (s : ByteArray), 0 ≤ q ∧ (s.size : Int) + q ≤ 10000000000000 ∧ gk = q.toNat ∧ a = .int .i64 q ∧ b = .string s ∧ Below w.heap.size w wr)
    case atStart => exact ⟨k, _, by omega, by show ((0 : Nat) : Int) + k ≤ _; omega, rfl, rfl, rfl, Below.refl _ _⟩
    case round =>
      obtain ⟨q, s, hq0, hq1, hgk, rfl, rfl, hb⟩ := hrel
      have Hgk := Lib.hid hgk
      clear hgk
      by_cases hlt : 0 < q
      · have e1 : q.tmod 10 = q % 10 := Int.tmod_eq_emod_of_nonneg hq0
        have e2 : q.tdiv 10 = q / 10 := Int.tdiv_eq_ediv_of_nonneg hq0
        have e3 : 0 ≤ q % 10 := by omega
        have e4 : q % 10 < 10 := by omega
        obtain ⟨bt, hbt⟩ : ∃ bt : UInt8, (bt.toNat : Int) = 48 + q % 10 := ⟨UInt8.ofNat (48 + q % 10).toNat, by rw [UInt8.toNat_ofNat']; omega⟩
        have hcv := run_convert_bytes_back (P := Try.prog) (wr.alloc (.cells #[.int .u8 (48 + q % 10)] 5)) 22 9 5 ⟨wr.heap.size, 0, none⟩ 1 [bt] Try.underlying22 Try.underlying5 Try.underlying9 (fun j hj => by
          have hj0 : j = 0 := by simpa using hj
          subst hj0
          simp [hbt, Addr.add])
        have hsz : (ByteArray.mk [bt].toArray ++ s).size = 1 + s.size := by rw [ByteArray.size_append]; rfl
        have hs : s.size ≤ 10000000000000 := by omega
        have hbw := hb.alloc hb.size (.cells #[.int .u8 (48 + q % 10)] 5)
        simp only [List.length_singleton] at hcv
        clear hbt
        go_wp2
        go_roundg (q / 10).toNat
        case measure => have := Hgk.out; omega
        case rel => exact ⟨q / 10, _, by omega, by simp at hsz ⊢; omega, rfl, by first | rfl | go_num, rfl, hbw⟩
      · obtain rfl : q = 0 := by omega
        have hs : s.size ≤ 10000000000000 := by omega
        go_wp2
        go_ret
        exact RetP.mk ⟨_, rfl⟩ hb

end Go.Proofs.Ytpibiieibofggaa
